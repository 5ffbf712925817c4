/- Package wire: the reader's Read, fail, next, End. -/
import Derived.Test.YtbniekblkbdidaaW3
namespace Go.Proofs.Ytbniekblkbdidaa
open Go.RowKit PA
def isRd (T p : Nat) : RSt → Assn
  | .ok l => ex fun a : Option Addr => ex fun c : Nat => sep (blk p (.cells #[.slice a l.length c, .int .i64 0] T (0, 0))) (rBytes.is [.slice a l.length c] l)
  | .error e => ex fun v : Option Addr × Nat × Nat => sep (fact (0 < e)) (blk p (.cells #[.slice v.1 v.2.1 v.2.2, .int .i64 e] T (0, 0)))
section
variable {W w : World} {A : Assn} {T p : Nat} {l : List UInt8} {e : Int}
theorem isRd_ok (h : Sat W w (sep (isRd T p (.ok l)) A)) : ∃ a c, Swf a l.length c ∧ Sat W w (sep (blk p (.cells #[.slice a l.length c, .int .i64 0] T (0, 0))) (sep (rBytes.is [.slice a l.length c] l) A)) := by
  simp only [isRd, ex_sep, Sat.ex, sep_assoc] at h
  obtain ⟨a, c, h⟩ := h
  obtain ⟨a', c', e, hw, -⟩ := h.p1.bytes_open
  cases e
  exact ⟨a, c, hw, h⟩
theorem isRd_okmk {a : Option Addr} {n c : Nat} (hn : n = l.length) (h : Sat W w (sep (blk p (.cells #[.slice a n c, .int .i64 0] T (0, 0))) (sep (rBytes.is [.slice a n c] l) A))) : Sat W w (sep (isRd T p (.ok l)) A) := by
  subst hn
  simp only [isRd, ex_sep, Sat.ex, sep_assoc]
  exact ⟨a, c, h⟩
theorem isRd_er (h : Sat W w (sep (isRd T p (.error e)) A)) : 0 < e ∧ ∃ a n c, Sat W w (sep (blk p (.cells #[.slice a n c, .int .i64 e] T (0, 0))) A) := by
  simp only [isRd, ex_sep, Sat.ex, sep_assoc] at h
  obtain ⟨v, h⟩ := h
  obtain ⟨h1, h2⟩ := Sat.fact.1 h
  exact ⟨h1, _, _, _, h2⟩
theorem isRd_ermk {a : Option Addr} {n c : Nat} (he : 0 < e) (h : Sat W w (sep (blk p (.cells #[.slice a n c, .int .i64 e] T (0, 0))) A)) : Sat W w (sep (isRd T p (.error e)) A) := by
  simp only [isRd, ex_sep, Sat.ex, sep_assoc]
  exact ⟨(a, n, c), Sat.fact.2 ⟨he, h⟩⟩
end
/-- 's[k:]' of bytes that are known. -/
theorem _root_.PA.Sat.bytes_drop {W w : World} {A : Assn} {b o n c : Nat} {l : List UInt8} (k : Nat) (hn : n = l.length) (hk : k ≤ n) (h : Sat W w (sep (rBytes.is [.slice (some ⟨b, o, none⟩) n c] l) A)) :
    Sat W w (sep (rBytes.is [.slice (if c = k then some ⟨b, o, none⟩ else some ⟨b, o + k, none⟩) (n - k) (c - k)] (l.drop k)) A) := by
  subst hn
  refine h.wk ?_
  rintro I m ⟨x, y, h5, h6, ⟨h7, hr⟩, h9⟩
  refine ⟨x, y, h5, h6, ⟨h7, ?_⟩, h9⟩
  obtain ⟨a', c', e, hw, hc⟩ := bytes_rel.1 hr
  cases e
  have hl : (l.drop k).length = l.length - k := by simp
  refine bytes_rel.2 ⟨_, c - k, by rw [hl], ⟨by rw [hl]; have := hw.1; omega, by have := hw.2.1; omega, fun e => by split at e <;> cases e⟩, ?_⟩
  by_cases hck : c = k
  · left
    have : l.drop k = [] := List.drop_eq_nil_of_le (by have := hw.1; omega)
    rw [this]; rfl
  · rw [if_neg hck]
    rcases hc with hc | ⟨b', o', cs, t, f, e1, e2, e3⟩
    · left
      have : l = [] := by simpa using hc
      rw [this]; simp
    · cases e1
      right
      refine ⟨b, o + k, cs, t, f, rfl, e2, fun i u hu => ?_⟩
      rw [Nat.add_assoc]
      refine e3 (k + i) u ?_
      rw [List.map_drop, List.getElem?_drop] at hu
      exact hu
theorem _root_.PA.Sat.bytes_src {W w : World} {A : Assn} {a : Option Addr} {n c : Nat} {l : List UInt8} (h : Sat W w (sep (rBytes.is [.slice a n c] l) A)) : n = l.length ∧ Swf a n c ∧ (∀ b, a = some b → ∀ j u, (l.map bv)[j]? = some u → w.cell? (b.add j) = some u) ∧
    (∀ j (hj : j < l.length), ∃ b o, a = some ⟨b, o, none⟩ ∧ w.cell? ⟨b, o + j, none⟩ = some (.int .u8 (l[j].toNat : Nat))) := by
  obtain ⟨a', c', e, hw, h1⟩ := h.bytes_open
  cases e
  refine ⟨rfl, hw, fun b hb j u hu => ?_, fun j hj => ?_⟩
  · subst hb; exact h1.rsl_src j u hu
  · obtain ⟨b, o, e, hc⟩ := h1.rsl_at (fun e => by have := congrArg List.length e; simp at this; rw [this] at hj; simp at hj)
    exact ⟨b, o, e, hc j _ (by rw [List.getElem?_map, List.getElem?_eq_getElem hj]; rfl)⟩
end Go.Proofs.Ytbniekblkbdidaa
