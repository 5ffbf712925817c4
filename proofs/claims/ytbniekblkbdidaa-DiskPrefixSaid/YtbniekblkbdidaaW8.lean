/- The reference's reader: Uint. -/
import Derived.Test.YtbniekblkbdidaaW7
import Derived.Deep.DeepCutAuto
namespace Go.Proofs.Ytbniekblkbdidaa
open Go.RowKit PA
theorem isRd_read {W w : World} {A : Assn} {T p : Nat} {l : List UInt8} (h : Sat W w (sep (isRd T p (.ok l)) A)) : ∃ a c, w.cell? ⟨p, 0, none⟩ = some (.slice a l.length c) ∧ Swf a l.length c ∧ (∀ j (hj : j < l.length), ∃ b o, a = some ⟨b, o, none⟩ ∧ w.cell? ⟨b, o + j, none⟩ = some (.int .u8 (l[j].toNat : Nat))) ∧
    (∀ j, j ≤ l.length → ∀ b o, a = some ⟨b, o, none⟩ → Sat W (w.setCell ⟨p, 0, none⟩ (.slice (if c = j then some ⟨b, o, none⟩ else some ⟨b, o + j, none⟩) (l.length - j) (c - j))) (sep (isRd T p (.ok (l.drop j))) A)) ∧
    (∀ e : Int, 0 < e → Sat W (w.setCell ⟨p, 1, none⟩ (.int .i64 e)) (sep (isRd T p (.error e)) A)) ∧ w.frozen? ⟨p, 0, none⟩ = false ∧ w.frozen? ⟨p, 1, none⟩ = false := by
  obtain ⟨a, c, hw, h1⟩ := isRd_ok h
  obtain ⟨-, -, -, hc⟩ := h1.p1.bytes_src
  refine ⟨a, c, h1.cell 0, hw, hc, fun j hj b o e => ?_, fun e he => ?_, h1.unfrozen 0, h1.unfrozen 1⟩
  · subst e
    have h2 : ∀ v, Sat W (w.setCell ⟨p, 0, none⟩ v) (sep (blk p (.cells #[v, .int .i64 0] T (0, 0))) (sep (rBytes.is [.slice (some ⟨b, o, none⟩) l.length c] l) A)) := fun v => h1.setCell 0 v
    exact isRd_okmk (by simp) ((h2 _).p1.bytes_drop j rfl hj).p1
  · have h2 : Sat W (w.setCell ⟨p, 1, none⟩ (.int .i64 e)) (sep (blk p (.cells #[.slice a l.length c, .int .i64 e] T (0, 0))) (sep (rBytes.is [.slice a l.length c] l) A)) := h1.setCell 1 _
    exact isRd_ermk he h2.p1.tail
end Go.Proofs.Ytbniekblkbdidaa
