/- Package channel: Out's packets as data; the two ends; the section's example. -/
import Derived.Test.YtnmkdidhilekiaaCh5
import Derived.Test.YtnmkdidhilekiaaUtil
namespace Go.Proofs.Ytnmkdidhilekiaa
open Go.RowKit PA
structure Pkt where
  seq : Int
  ack : Int
  b : List UInt8
def rPkt : Rep Pkt where
  rel I cs x := ∃ v, cs = [.int .i64 x.seq, .int .i64 x.ack, v] ∧ rBytes.rel I [v] x.b
  mono hl := fun ⟨v, h1, h2⟩ => ⟨v, h1, rBytes.mono hl h2⟩
def pkList (a d : Int) : List (List UInt8) → List Pkt
  | [] => []
  | b :: l => ⟨a + 1, d, b⟩ :: pkList (a + 1) d l
theorem pkList_length (a d : Int) (l : List (List UInt8)) : (pkList a d l).length = l.length := by
  induction l generalizing a with
  | nil => rfl
  | cons b l ih => simp [pkList, ih]
theorem pkList_get (a d : Int) (l : List (List UInt8)) (i : Nat) (h : i < (pkList a d l).length) : (pkList a d l)[i] = ⟨a + i + 1, d, l[i]'(by rw [pkList_length] at h; exact h)⟩ := by
  induction l generalizing a i with
  | nil => simp [pkList] at h
  | cons b l ih =>
    cases i with
    | zero => simp [pkList]
    | succ i => simp only [pkList, List.getElem_cons_succ, ih]; congr 1; omega
def outPkts (st : AEnd) (n : Nat) : List Pkt := if n = 0 ∧ st.ow = true then [⟨0, st.dlv, []⟩] else pkList st.ack st.dlv (st.wait.take n)
theorem outPkts_length (st : AEnd) (n : Nat) (hn : n ≤ st.wait.length) : (outPkts st n).length = outN st n := by
  unfold outPkts outN; split
  · rfl
  · rw [pkList_length, List.length_take]; omega
theorem rows_pk (I : Mem) (d : Int) : ∀ (bss : List (List UInt8)) (a : Int) (vs : List Value), (rBytes.rows 1).rel I vs bss → (rPkt.rows 3).rel I (pkCells a d vs) (pkList a d bss) := by
  intro bss
  induction bss with
  | nil =>
    rintro a vs ⟨css, rfl, h⟩
    cases css with
    | nil => exact ⟨[], rfl, trivial⟩
    | cons _ _ => exact h.elim
  | cons b bss ih =>
    rintro a vs ⟨css, rfl, h⟩
    cases css with
    | nil => exact h.elim
    | cons c css =>
      obtain ⟨v, rfl⟩ : ∃ v, c = [v] := by match c, h.1.2 with | [x], _ => exact ⟨x, rfl⟩
      obtain ⟨css', e, h'⟩ := ih (a + 1) _ ⟨css, rfl, h.2⟩
      refine ⟨[.int .i64 (a + 1), .int .i64 d, v] :: css', ?_, ⟨⟨v, rfl, h.1.1⟩, rfl⟩, h'⟩
      simp only [List.flatten_cons, List.cons_append, List.nil_append, pkCells, e]
theorem _root_.PA.Sat.rows_cons {W w : World} {A : Assn} {α : Type} {R : Rep α} {k : Nat} {cs c : List Value} {xs : List α} {x : α} (h : Sat W w (sep (R.is c x) (sep ((R.rows k).is cs xs) A))) (hk : c.length = k) : Sat W w (sep ((R.rows k).is (c ++ cs) (x :: xs)) A) := by
  refine h.wk ?_
  rintro I m ⟨x1, y1, d1, e1, ⟨rfl, h1⟩, x2, y2, d2, rfl, ⟨rfl, css, rfl, h2⟩, h3⟩
  exact ⟨Mem.no, y2, fun _ => .inl rfl, by rw [e1, Mem.un_no], ⟨rfl, c :: css, rfl, ⟨h1, hk⟩, h2⟩, h3⟩
theorem ownB_settle {W w : World} : ∀ (vs : List Value) (bss : List (List UInt8)) (A : Assn), vs.length = bss.length → Sat W w (sep (ownB (vs.zip bss)) A) → Sat W w (sep ((rBytes.rows 1).is vs bss) A)
  | [], [], A, _, h => by simp only [List.zip_nil_left, ownB, emp_sep] at h; exact h.rows_nil _ _
  | v :: vs, b :: bss, A, hl, h => by
    simp only [List.zip_cons_cons, ownB, ex_sep, Sat.ex, sep_assoc] at h
    obtain ⟨a, c, h⟩ := h
    have h2 := (Sat.fact.1 h).2
    have hv := (Sat.fact.1 h).1
    subst hv
    have h1 := ownB_settle vs bss _ (by simpa using hl) h2.bytes_of_osl.2.p1
    exact h1.p1.rows_cons rfl
  | [], _ :: _, _, hl, _ => by simp at hl
  | _ :: _, [], _, hl, _ => by simp at hl
theorem _root_.PA.Sat.is_imp {W w : World} {A : Assn} {α β : Type} {R : Rep α} {T : Rep β} {cs ds : List Value} {x : α} {y : β} (h : Sat W w (sep (R.is cs x) A)) (hi : ∀ I, R.rel I cs x → T.rel I ds y) : Sat W w (sep (T.is ds y) A) :=
  h.wk fun _ _ ⟨x, y, d, e, ⟨e1, h1⟩, h2⟩ => ⟨x, y, d, e, ⟨e1, hi _ h1⟩, h2⟩
theorem rel_bytes_nil (I : Mem) : rBytes.rel I [.slice none 0 0] [] := ⟨none, 0, [], rfl, ⟨Nat.le_refl _, Nat.zero_le _, fun _ => rfl⟩, .inl rfl, [], rfl, trivial⟩
theorem rel_out (st : AEnd) (n : Nat) (vs : List Value) (I : Mem) (h : (rBytes.rows 1).rel I vs (st.wait.take n)) : (rPkt.rows 3).rel I (outCells st n vs) (outPkts st n) := by
  unfold outCells outPkts
  split
  · exact ⟨[[.int .i64 0, .int .i64 st.dlv, .slice none 0 0]], rfl, ⟨⟨.slice none 0 0, rfl, rel_bytes_nil I⟩, rfl⟩, trivial⟩
  · exact rows_pk I _ _ _ _ h
/-- Out, its packets as data. -/
theorem out_pkts {W w : World} {A : Assn} (p : Nat) (st : AEnd) (h : Sat W w (sep (isEnd p st) A)) (hw1 : 1 ≤ st.win) (hw2 : st.win ≤ 16) (n : Nat) (hn : (n : Int) = min (st.wait.length : Int) st.win) (ha1 : 0 ≤ st.ack) (ha2 : st.ack ≤ 1000000000) (hbl : ∀ b ∈ st.wait, b.length ≤ 65536) :
    Calls Try.prog 15 #[.pointer (some ⟨p, 0, none⟩)] w fun e w' => ∃ a c, e = .returned (.slice a (outN st n) c) ∧ Swf a (outN st n) c ∧
      Sat W w' (sep ((rPkt.slice 3).is [.slice a (outN st n) c] (outPkts st n)) (sep (isEnd p { st with ow := false }) A)) := by
  refine (out_spec p st h hw1 hw2 n hn ha1 ha2 hbl).mono ?_
  rintro e w' ⟨a, c, vs, rfl, hvs, hS⟩
  have hnl : n ≤ st.wait.length := by omega
  refine ⟨a, c, rfl, hS.swf_of_osl, ?_⟩
  have h1 := ownB_settle _ _ _ (by rw [hvs, List.length_take]; omega) hS.p1
  have h2 := h1.is_imp (T := rPkt.rows 3) (rel_out st n vs)
  exact h2.p1.slice_of_osl (outPkts_length st n hnl).symm
theorem pkt_get {W w : World} {A : Assn} {a : Option Addr} {n c : Nat} {xs : List Pkt} (h : Sat W w (sep ((rPkt.slice 3).is [.slice a n c] xs) A)) (i : Nat) (hi : i < xs.length) :
    ∃ b o v, a = some ⟨b, o, none⟩ ∧ w.cell? ⟨b, o + i * 3, none⟩ = some (.int .i64 xs[i].seq) ∧ w.cell? ⟨b, o + i * 3 + 1, none⟩ = some (.int .i64 xs[i].ack) ∧ w.cell? ⟨b, o + i * 3 + 2, none⟩ = some v ∧
      Sat W w (sep (rBytes.is [v] xs[i].b) (sep ((rPkt.slice 3).is [.slice a n c] xs) A)) := by
  obtain ⟨b, o, cv, rfl, hl, hc, hS⟩ := h.slice_get i hi (by omega)
  obtain ⟨v, rfl, _⟩ := hS.pers_heap
  refine ⟨b, o, v, rfl, hc 0 _ rfl, hc 1 _ rfl, hc 2 _ rfl, hS.is_imp ?_⟩
  rintro I ⟨v', e, h'⟩
  simp at e
  subst e
  exact h'
end Go.Proofs.Ytnmkdidhilekiaa
