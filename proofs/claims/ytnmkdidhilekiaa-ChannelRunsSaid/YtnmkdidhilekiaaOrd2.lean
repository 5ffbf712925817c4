/- ChannelOrder: what the loop's variables hold. -/
import Derived.Test.YtnmkdidhilekiaaOrd
import Derived.Lib.SliceRun
import Derived.Deep.DeepCutAuto
import Derived.Deep.CutBlock
namespace Go.Proofs.Ytnmkdidhilekiaa
open Go.RowKit PA
def rowV (f : Nat → Value) : Array Value := #[f 0, f 1]
theorem rowV_get (f : Nat → Value) (k : Nat) (hk : k < 2) : (rowV f)[k]? = some (f k) := by
  match k, hk with
  | 0, _ => rfl
  | 1, _ => rfl
theorem rowV_set (f : Nat → Value) (k : Nat) (hk : k < 2) (v : Value) : (rowV f).setIfInBounds k v = rowV fun j => if j = k then v else f j := by
  match k, hk with
  | 0, _ => rfl
  | 1, _ => rfl
def two (F : Nat → Assn) : Assn := sep (F 0) (F 1)
theorem two_pick (F : Nat → Assn) (k : Nat) (hk : k < 2) : two F = sep (F k) (F (1 - k)) := by
  match k, hk with
  | 0, _ => rfl
  | 1, _ => exact sep_comm _ _
theorem two_put (F : Nat → Assn) (k : Nat) (hk : k < 2) (X : Assn) : sep X (F (1 - k)) = two fun j => if j = k then X else F j := by
  rw [two_pick _ k hk]
  simp only [if_true]
  rw [if_neg (by omega)]
def IsArg (w : World) (a : Option Addr) (len cap : Nat) (zs : List Int) : Prop :=
  (a = none ∧ len = 0 ∧ cap = 0 ∧ zs = []) ∨
  ∃ x, a = some x ∧ len ≤ cap ∧ cap ≤ maxLen ∧ zs.length = cap ∧ (∀ i, i < zs.length → w.cell? (x.add i) = some (.int .i64 (zs.getD i 0))) ∧ ∀ n ∈ zs, (Lit.int .i64 n).wf = true
theorem arg_at {W w : World} {A : Assn} {a : Option Addr} {len cap : Nat} {zs : List Int} (h : IsArg W a len cap zs) (hS : Sat W w A) (i : Nat) (hi : i < len) :
    ∃ x n, a = some x ∧ w.cell? (x.add i) = some (.int .i64 n) ∧ -9223372036854775808 ≤ n ∧ n ≤ 9223372036854775807 := by
  rcases h with ⟨rfl, rfl, -, -⟩ | ⟨x, rfl, h1, h2, h3, h4, h5⟩
  · omega
  · have hc := h4 i (by omega)
    refine ⟨x, zs.getD i 0, rfl, ?_, ?_⟩
    · have : (x.add i).block < W.heap.size := World.block_lt_of_cell? W _ hc
      rw [hS.below.cell this]; exact hc
    · have : zs.getD i 0 ∈ zs := by rw [List.getD_eq_getElem?_getD, List.getElem?_eq_getElem (by omega)]; exact List.getElem_mem _
      exact i64_of_wf (h5 _ this)
def sentK (a : Option Addr) (c : Nat) (V : List Value) (L : List (List UInt8)) : Assn := sep (osl 31 1 a L.length c V) ((rBytes.rows 1).is V L)
/-- What the link's two lists own. -/
def linkA (al : Option Addr) (cl : Nat) (lc : List Value) (at' : Option Addr) (ct : Nat) (l : List (Pkt × Nat)) : Assn :=
  sep (osl 44 3 al l.length cl lc) (sep ((rPkt.rows 3).is lc (l.map (·.1))) (osl 3 1 at' l.length ct (l.map fun x => .int .i64 x.2)))
def sentV (A : Nat → Option Addr) (C : Nat → Nat) (o : OSt) : Nat → Value := fun k => .slice (A k) (o.sent k).length (C k)
def gotV (o : OSt) : Nat → Value := fun k => .int .i64 (o.S k).dlv
def OrdB (b gs gg : Nat) (P : Nat → Nat) (A : Nat → Option Addr) (C : Nat → Nat) (V : Nat → List Value) (o : OSt) : Assn :=
  sep (rsl (some ⟨b, 0, none⟩) [ptr (P 0), ptr (P 1)]) (sep (isTwo P o.S) (sep (blk gs (.cells (rowV (sentV A C o)) 42 (0, 0))) (sep (two fun k => sentK (A k) (C k) (V k) (o.sent k)) (blk gg (.cells (rowV (gotV o)) 3 (0, 0))))))
theorem ordB_open {W w : World} {X : Assn} {b gs gg : Nat} {P : Nat → Nat} {A : Nat → Option Addr} {C : Nat → Nat} {V : Nat → List Value} {o : OSt} (h : Sat W w (sep (OrdB b gs gg P A C V o) X)) (k : Nat) (hk : k < 2) :
    Sat W w (sep (isTwo P o.S) (sep (osl 31 1 (A k) (o.sent k).length (C k) (V k)) (sep ((rBytes.rows 1).is (V k) (o.sent k)) (sep (blk gs (.cells (rowV (sentV A C o)) 42 (0, 0))) (sep (rsl (some ⟨b, 0, none⟩) [ptr (P 0), ptr (P 1)]) (sep (blk gg (.cells (rowV (gotV o)) 3 (0, 0))) (sep (sentK (A (1 - k)) (C (1 - k)) (V (1 - k)) (o.sent (1 - k))) X))))))) := by
  simp only [OrdB, two_pick (fun k => sentK (A k) (C k) (V k) (o.sent k)) k hk] at h
  rw [show sentK (A k) (C k) (V k) (o.sent k) = sep (osl 31 1 (A k) (o.sent k).length (C k) (V k)) ((rBytes.rows 1).is (V k) (o.sent k)) from rfl] at h
  simpa only [sep_comm, sep_lcomm, sep_assoc] using h
theorem ordB_close {W w : World} {X : Assn} {b gs gg : Nat} {P : Nat → Nat} {A : Nat → Option Addr} {C : Nat → Nat} {V : Nat → List Value} {o : OSt} (k : Nat) (hk : k < 2) (o' : OSt) (a' : Option Addr) (c' : Nat) (V' : List Value) (hs : ∀ j, j ≠ k → o'.sent j = o.sent j)
    (h : Sat W w (sep (isTwo P o'.S) (sep (osl 31 1 a' (o'.sent k).length c' V') (sep ((rBytes.rows 1).is V' (o'.sent k)) (sep (blk gs (.cells (rowV fun j => if j = k then .slice a' (o'.sent k).length c' else sentV A C o j) 42 (0, 0))) (sep (rsl (some ⟨b, 0, none⟩) [ptr (P 0), ptr (P 1)]) (sep (blk gg (.cells (rowV (gotV o')) 3 (0, 0))) (sep (sentK (A (1 - k)) (C (1 - k)) (V (1 - k)) (o.sent (1 - k))) X)))))))) :
    Sat W w (sep (OrdB b gs gg P (fun j => if j = k then a' else A j) (fun j => if j = k then c' else C j) (fun j => if j = k then V' else V j) o') X) := by
  simp only [OrdB, two_pick (fun q => sentK (if q = k then a' else A q) (if q = k then c' else C q) (if q = k then V' else V q) (o'.sent q)) k hk, if_true]
  rw [if_neg (by omega), if_neg (by omega), if_neg (by omega), hs (1 - k) (by omega)]
  rw [show sentV (fun j => if j = k then a' else A j) (fun j => if j = k then c' else C j) o' = (fun j => if j = k then .slice a' (o'.sent k).length c' else sentV A C o j) by
    funext j; unfold sentV; split
    · rename_i e; subst e; simp
    · rename_i e; simp [e, hs j e]]
  rw [show sentK a' c' V' (o'.sent k) = sep (osl 31 1 a' (o'.sent k).length c' V') ((rBytes.rows 1).is V' (o'.sent k)) from rfl]
  simpa only [sep_comm, sep_lcomm, sep_assoc] using h
theorem ordB_back {W w : World} {X : Assn} {b gs gg : Nat} {P : Nat → Nat} {A : Nat → Option Addr} {C : Nat → Nat} {V : Nat → List Value} {o : OSt} (k : Nat) (hk : k < 2) (s : AEnd) (hs : s.dlv = (o.S k).dlv)
    (h : Sat W w (sep (isEnd (P k) s) (sep (isEnd (P (1 - k)) (o.S (1 - k))) (sep (osl 31 1 (A k) (o.sent k).length (C k) (V k)) (sep ((rBytes.rows 1).is (V k) (o.sent k)) (sep (blk gs (.cells (rowV (sentV A C o)) 42 (0, 0))) (sep (rsl (some ⟨b, 0, none⟩) [ptr (P 0), ptr (P 1)]) (sep (blk gg (.cells (rowV (gotV o)) 3 (0, 0))) (sep (sentK (A (1 - k)) (C (1 - k)) (V (1 - k)) (o.sent (1 - k))) X))))))))) :
    Sat W w (sep (OrdB b gs gg P A C V { o with S := upd o.S k s }) X) := by
  have h1 := h.twoPut (S := o.S) hk
  have hg : gotV { o with S := upd o.S k s } = gotV o := by
    funext j; unfold gotV upd; dsimp only; split
    · rename_i e; rw [e, hs]
    · rfl
  simp only [OrdB, two_pick (fun k => sentK (A k) (C k) (V k) (o.sent k)) k hk, hg]
  rw [show sentK (A k) (C k) (V k) (o.sent k) = sep (osl 31 1 (A k) (o.sent k).length (C k) (V k)) ((rBytes.rows 1).is (V k) (o.sent k)) from rfl]
  rw [show sentV A C { o with S := upd o.S k s } = sentV A C o from rfl]
  simpa only [sep_comm, sep_lcomm, sep_assoc] using h1
def OrdCore (W : World) (b gs gg : Nat) (P : Nat → Nat) (i : Nat) (lv tv : Value) (wr : World) : Prop :=
  ∃ (o : OSt) (A : Nat → Option Addr) (C : Nat → Nat) (V : Nat → List Value) (al : Option Addr) (cl : Nat) (lc : List Value) (at' : Option Addr) (ct : Nat),
    lv = .slice al o.link.length cl ∧ tv = .slice at' o.link.length ct ∧ o.link.length ≤ 16 * i ∧ OInv i o ∧
    Sat W wr (sep (OrdB b gs gg P A C V o) (linkA al cl lc at' ct o.link))
theorem OrdCore.rel {W wc : World} {b gs gg : Nat} {P : Nat → Nat} {i : Nat} {lv tv : Value} (h : OrdCore W b gs gg P i lv tv wc) : ∃ R : World → Prop, R wc ∧ ∀ w', R w' ↔ OrdCore W b gs gg P i lv tv w' := ⟨_, h, fun _ => Iff.rfl⟩
theorem ord_send_core {W w : World} {b gs gg i k : Nat} {P : Nat → Nat} {A : Nat → Option Addr} {C : Nat → Nat} {V : Nat → List Value} {o : OSt} {al : Option Addr} {cl : Nat} {lc : List Value} {at' : Option Addr} {ct : Nat} {a2 : Option Addr} {c2 : Nat} {v : Value}
    (hI : OInv i o) (hll : o.link.length ≤ 16 * i) (hk : k < 2)
    (h : Sat W w (sep (blk gs (.cells (rowV fun j => if j = k then .slice a2 ((o.sent k).length + 1) c2 else sentV A C o j) 42 (0, 0))) (sep (osl 31 1 a2 ((o.sent k).length + 1) c2 (V k ++ [v]))
      (sep (isTwo P (upd o.S k { o.S k with wait := (o.S k).wait ++ [[UInt8.ofNat i, 3]] })) (sep (rBytes.is [v] [UInt8.ofNat i, 3]) (sep ((rBytes.rows 1).is (V k) (o.sent k)) (sep (rsl (some ⟨b, 0, none⟩) [ptr (P 0), ptr (P 1)]) (sep (blk gg (.cells (rowV (gotV o)) 3 (0, 0))) (sep (sentK (A (1 - k)) (C (1 - k)) (V (1 - k)) (o.sent (1 - k))) (linkA al cl lc at' ct o.link)))))))))) :
    OrdCore W b gs gg P (i + 1) (.slice al o.link.length cl) (.slice at' o.link.length ct) w := by
  obtain ⟨o', ho⟩ : ∃ o' : OSt, o' = { o with S := upd o.S k { o.S k with wait := (o.S k).wait ++ [[UInt8.ofNat i, 3]] }, sent := fun j => if j = k then o.sent k ++ [[UInt8.ofNat i, 3]] else o.sent j } := ⟨_, rfl⟩
  have e1 : o'.S = upd o.S k { o.S k with wait := (o.S k).wait ++ [[UInt8.ofNat i, 3]] } := by rw [ho]
  have e2 : o'.sent k = o.sent k ++ [[UInt8.ofNat i, 3]] := by rw [ho]; simp
  have e3 : ∀ j, j ≠ k → o'.sent j = o.sent j := fun j hj => by rw [ho]; simp [hj]
  have e4 : o'.link = o.link := by rw [ho]
  have hg : gotV o' = gotV o := by
    funext j; unfold gotV; rw [e1]; unfold upd; split
    · rename_i e; rw [e]
    · rfl
  have hI2 : OInv (i + 1) o' := by rw [ho]; exact ord_send hI k hk _ rfl
  refine ⟨o', _, _, _, al, cl, lc, at', ct, by rw [e4], by rw [e4], by rw [e4]; omega, hI2, ordB_close (A := A) (C := C) (V := V) (o := o) k hk o' a2 c2 (V k ++ [v]) e3 ?_⟩
  rw [e1, e2, hg, e4, List.length_append, List.length_singleton]
  have h1 := (h.p3.p4.snoc rfl)
  simpa only [sep_comm, sep_lcomm, sep_assoc] using h1
def OrdRel (W : World) (b gs gg : Nat) (P : Nat → Nat) (len : Nat) (lv tv iv : Value) (wr : World) : Prop :=
  ∃ i : Nat, i ≤ len ∧ i ≤ 80 ∧ iv = .int .i64 i ∧ OrdCore W b gs gg P i lv tv wr
theorem link_snoc {W w : World} {X : Assn} {a2 a3 : Option Addr} {c2 c3 y : Nat} {lc : List Value} {l : List (Pkt × Nat)} {pk : Pkt} {v : Value}
    (h : Sat W w (sep (osl 44 3 a2 (l.length + 1) c2 (lc ++ [.int .i64 pk.seq, .int .i64 pk.ack, v])) (sep (osl 3 1 a3 (l.length + 1) c3 ((l.map fun x => .int .i64 x.2) ++ [.int .i64 y])) (sep (rBytes.is [v] pk.b) (sep ((rPkt.rows 3).is lc (l.map (·.1))) X))))) :
    Sat W w (sep (linkA a2 c2 (lc ++ [.int .i64 pk.seq, .int .i64 pk.ack, v]) a3 c3 (l ++ [(pk, y)])) X) := by
  have h1 : Sat W w (sep (rPkt.is [.int .i64 pk.seq, .int .i64 pk.ack, v] pk) _) := h.p2.is_imp (T := rPkt) (ds := [.int .i64 pk.seq, .int .i64 pk.ack, v]) (y := pk) fun I hI => ⟨v, rfl, hI⟩
  have h2 := (h1.p3.snoc rfl)
  simp only [linkA, List.length_append, List.length_singleton, List.map_append, List.map_cons, List.map_nil]
  simpa only [sep_comm, sep_lcomm, sep_assoc] using h2
/-- While Out's packets are laid on the link. -/
def LaidRel (W : World) (b gs gg : Nat) (P : Nat → Nat) (A : Nat → Option Addr) (C : Nat → Nat) (V : Nat → List Value) (o : OSt) (k : Nat) (ps : List Pkt) (psA : Assn) (lv tv jv : Value) (wr : World) : Prop :=
  ∃ (j : Nat) (al : Option Addr) (cl : Nat) (lc : List Value) (at' : Option Addr) (ct : Nat), j ≤ ps.length ∧ jv = .int .i64 j ∧ lv = .slice al (o.link.length + j) cl ∧ tv = .slice at' (o.link.length + j) ct ∧
    Sat W wr (sep (OrdB b gs gg P A C V { o with S := upd o.S k { o.S k with ow := false } }) (sep psA (linkA al cl lc at' ct (o.link ++ (ps.take j).map fun p => (p, 1 - k)))))
theorem infoInt : (Try.prog.info? 3).map (fun i => (i.zero, i.size, i.bytes)) = some (some (.int .i64 0), 1, 8) := by kernel_rfl
theorem osl_row_get {W w : World} {A : Assn} {α : Type} {R : Rep α} {E k : Nat} {a : Option Addr} {c : Nat} {cs : List Value} {xs : List α} (hk : 0 < k) (h : Sat W w (sep (osl E k a xs.length c cs) (sep ((R.rows k).is cs xs) A))) (i : Nat) (hi : i < xs.length) :
    ∃ g cv, a = some ⟨g, 0, none⟩ ∧ cv.length = k ∧ (∀ j u, cv[j]? = some u → w.cell? ⟨g, i * k + j, none⟩ = some u) ∧ Sat W w (sep (R.is cv xs[i]) (sep (osl E k a xs.length c cs) (sep ((R.rows k).is cs xs) A))) := by
  have hl := h.osl_len
  have hne : cs ≠ [] := by
    intro e
    rw [e] at hl
    have : 0 < xs.length * k := Nat.mul_pos (by omega) hk
    simp at hl
    omega
  obtain ⟨g, rfl, hc⟩ := h.osl_at hne
  obtain ⟨cv, h1, h2, h3⟩ := h.p1.rows_get i hi
  refine ⟨g, cv, rfl, h1, fun j u hu => hc _ _ ?_, by simpa only [sep_comm, sep_lcomm, sep_assoc] using h3⟩
  have hj : j < k := by rw [← h1]; exact (List.getElem?_eq_some_iff.1 hu).1
  rw [h2 j hj]; exact hu
theorem link_get {W w : World} {X : Assn} {al at' : Option Addr} {cl ct : Nat} {lc : List Value} {l : List (Pkt × Nat)} (h : Sat W w (sep (linkA al cl lc at' ct l) X)) (i : Nat) (hi : i < l.length) :
    ∃ g gt v, al = some ⟨g, 0, none⟩ ∧ at' = some ⟨gt, 0, none⟩ ∧ w.cell? ⟨gt, i, none⟩ = some (.int .i64 l[i].2) ∧ w.cell? ⟨g, i * 3, none⟩ = some (.int .i64 l[i].1.seq) ∧ w.cell? ⟨g, i * 3 + 1, none⟩ = some (.int .i64 l[i].1.ack) ∧ w.cell? ⟨g, i * 3 + 2, none⟩ = some v ∧
      Sat W w (sep (rBytes.is [v] l[i].1.b) (sep (linkA al cl lc at' ct l) X)) := by
  have h' : Sat W w (sep (osl 44 3 al (l.map (·.1)).length cl lc) (sep ((rPkt.rows 3).is lc (l.map (·.1))) (sep (osl 3 1 at' l.length ct (l.map fun x => .int .i64 x.2)) X))) := by
    rw [List.length_map]; simpa only [linkA, sep_comm, sep_lcomm, sep_assoc] using h
  obtain ⟨g, cv, rfl, hl, hc, hS⟩ := osl_row_get (by omega) h' i (by rw [List.length_map]; exact hi)
  obtain ⟨v, rfl, _⟩ := hS.pers_heap
  have hne : (l.map fun x => (.int .i64 x.2 : Value)) ≠ [] := by intro e; have := congrArg List.length e; rw [List.length_map, List.length_nil] at this; omega
  obtain ⟨gt, rfl, hct⟩ := h'.p2.osl_at hne
  have hli : (l.map (·.1))[i]'(by rw [List.length_map]; exact hi) = l[i].1 := by simp
  rw [hli] at hS hc
  refine ⟨g, gt, v, rfl, rfl, hct i _ (by rw [List.getElem?_map, List.getElem?_eq_getElem hi]; rfl), hc 0 _ rfl, hc 1 _ rfl, hc 2 _ rfl, ?_⟩
  have h2 := hS.is_imp (T := rBytes) (ds := [v]) (y := l[i].1.b) (by
    rintro I ⟨v', e, h'⟩
    simp at e
    subst e
    exact h')
  rw [List.length_map] at h2
  simpa only [linkA, sep_comm, sep_lcomm, sep_assoc] using h2
theorem sent_get {W w : World} {X : Assn} {A : Nat → Option Addr} {C : Nat → Nat} {V : Nat → List Value} {F : Nat → List (List UInt8)} (h : Sat W w (sep (two fun k => sentK (A k) (C k) (V k) (F k)) X)) (k : Nat) (hk : k < 2) (i : Nat) (hi : i < (F k).length) :
    ∃ g v, A k = some ⟨g, 0, none⟩ ∧ w.cell? ⟨g, i, none⟩ = some v ∧ Sat W w (sep (rBytes.is [v] (F k)[i]) (sep (two fun k => sentK (A k) (C k) (V k) (F k)) X)) := by
  have h' := h
  rw [two_pick _ k hk] at h'
  have h2 : Sat W w (sep (osl 31 1 (A k) (F k).length (C k) (V k)) (sep ((rBytes.rows 1).is (V k) (F k)) (sep (sentK (A (1 - k)) (C (1 - k)) (V (1 - k)) (F (1 - k))) X))) := by
    have e : sentK (A k) (C k) (V k) (F k) = sep (osl 31 1 (A k) (F k).length (C k) (V k)) ((rBytes.rows 1).is (V k) (F k)) := rfl
    rw [e] at h'
    simpa only [sep_assoc] using h'
  obtain ⟨g, cv, e, hl, hc, hS⟩ := osl_row_get (by omega) h2 i hi
  obtain ⟨v, rfl⟩ : ∃ v, cv = [v] := by match cv, hl with | [x], _ => exact ⟨x, rfl⟩
  refine ⟨g, v, e, by simpa using hc 0 _ rfl, ?_⟩
  rw [two_pick _ k hk, show sentK (A k) (C k) (V k) (F k) = sep (osl 31 1 (A k) (F k).length (C k) (V k)) ((rBytes.rows 1).is (V k) (F k)) from rfl]
  simpa only [sep_assoc] using hS
/-- All packets are laid. -/
theorem ord_laid_core {W w : World} {b gs gg i k : Nat} {P : Nat → Nat} {A : Nat → Option Addr} {C : Nat → Nat} {V : Nat → List Value} {o : OSt} {psA : Assn} {n : Nat} {al : Option Addr} {cl : Nat} {lc : List Value} {at' : Option Addr} {ct : Nat} {ps : List Pkt}
    (hI : OInv i o) (hll : o.link.length ≤ 16 * i) (hk : k < 2) (hps : ps = outPkts (o.S k) n) (hn : n ≤ (o.S k).wait.length) (hp : ps.length ≤ 16)
    (h : Sat W w (sep (OrdB b gs gg P A C V { o with S := upd o.S k { o.S k with ow := false } }) (sep psA (linkA al cl lc at' ct (o.link ++ ps.map fun p => (p, 1 - k)))))) :
    OrdCore W b gs gg P (i + 1) (.slice al (o.link.length + ps.length) cl) (.slice at' (o.link.length + ps.length) ct) w := by
  obtain ⟨o', ho⟩ : ∃ o' : OSt, o' = { o with S := upd o.S k { o.S k with ow := false }, link := o.link ++ (outPkts (o.S k) n).map fun p => (p, 1 - k) } := ⟨_, rfl⟩
  have hI2 : OInv (i + 1) o' := by rw [ho]; exact (ord_out hI k hk n hn).up
  have e4 : o'.link = o.link ++ ps.map fun p => (p, 1 - k) := by rw [ho, hps]
  have e5 : o'.link.length = o.link.length + ps.length := by rw [e4]; simp
  refine ⟨o', A, C, V, al, cl, lc, at', ct, by rw [e5], by rw [e5], by omega, hI2, ?_⟩
  rw [e4]
  have : OrdB b gs gg P A C V o' = OrdB b gs gg P A C V { o with S := upd o.S k { o.S k with ow := false } } := by rw [ho]; rfl
  rw [this]
  exact h.p1.drop
/-- While what In returned is compared. -/
def CmpRel (W : World) (gs gg : Nat) (A : Nat → Option Addr) (C : Nat → Nat) (V : Nat → List Value) (o : OSt) (t d X : Nat) (outs : List (List UInt8)) (xv : Value) (R : Assn) (rv : Value) (wr : World) : Prop :=
  ∃ r : Nat, r ≤ X ∧ rv = .int .i64 r ∧ Sat W wr (sep (blk gg (.cells (rowV fun j => if j = t then .int .i64 ((d + r : Nat) : Int) else gotV o j) 3 (0, 0))) (sep ((rBytes.slice 1).is [xv] outs) (sep (blk gs (.cells (rowV (sentV A C o)) 42 (0, 0))) (sep (two fun k => sentK (A k) (C k) (V k) (o.sent k)) R))))
theorem ord_in_core {W w : World} {b gs gg i t : Nat} {P : Nat → Nat} {A : Nat → Option Addr} {C : Nat → Nat} {V : Nat → List Value} {o : OSt} {s : AEnd} {d X : Nat} {Y : Assn} {al : Option Addr} {cl : Nat} {lc : List Value} {at' : Option Addr} {ct : Nat}
    (hI : OInv i { o with S := upd o.S t s }) (hll : o.link.length ≤ 16 * i) (hd : s.dlv = ((d + X : Nat) : Int))
    (h : Sat W w (sep (blk gg (.cells (rowV fun j => if j = t then .int .i64 ((d + X : Nat) : Int) else gotV o j) 3 (0, 0))) (sep Y (sep (blk gs (.cells (rowV (sentV A C o)) 42 (0, 0))) (sep (two fun k => sentK (A k) (C k) (V k) (o.sent k)) (sep (isTwo P (upd o.S t s)) (sep (rsl (some ⟨b, 0, none⟩) [ptr (P 0), ptr (P 1)]) (linkA al cl lc at' ct o.link)))))))) :
    OrdCore W b gs gg P (i + 1) (.slice al o.link.length cl) (.slice at' o.link.length ct) w := by
  refine ⟨{ o with S := upd o.S t s }, A, C, V, al, cl, lc, at', ct, rfl, rfl, by show o.link.length ≤ _; omega, hI.up, ?_⟩
  have hg : gotV { o with S := upd o.S t s } = fun j => if j = t then .int .i64 ((d + X : Nat) : Int) else gotV o j := by
    funext j; unfold gotV upd; dsimp only; split
    · rw [hd]
    · rfl
  simp only [OrdB, hg]
  rw [show sentV A C { o with S := upd o.S t s } = sentV A C o from rfl]
  have := h.p1.drop
  simpa only [sep_comm, sep_lcomm, sep_assoc] using this
end Go.Proofs.Ytnmkdidhilekiaa
