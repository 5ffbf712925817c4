/- ChannelRuns: what a region reads. -/
import Derived.Test.YtnmkdidhilekiaaRuns
namespace Go.Proofs.Ytnmkdidhilekiaa
open Go.RowKit PA
theorem pk_cells {w w' : World} {b : Nat} {P : Nat → Nat} {bm : Nat} {Q : Nat → Nat} {M : Nat → MEnd} {g cl : Nat} {lc : List Value} {gt ct : Nat} {l : List (Pkt × Nat)} {bp : Nat} {seq ack : Int} {ab : Option Addr} {nb cb : Nat} {bs : List UInt8} {t : Nat} (ht2 : t < 2) (j : Nat) (hj : j < l.length) (ht : t = l[j].2)
    (h : Sat w w' (sep (blk bp (.cells #[.int .i64 seq, .int .i64 ack, .slice ab nb cb] 40 (0, 0))) (sep (rBytes.is [.slice ab nb cb] bs) (sep (RunsA b P bm Q M) (linkR (some ⟨g, 0, none⟩) cl lc (some ⟨gt, 0, none⟩) ct l))))) :
    w'.cell? ⟨gt, j, none⟩ = some (.int .i64 t) ∧ w'.cell? ⟨b, t, none⟩ = some (.pointer (some ⟨P t, 0, none⟩)) ∧ w'.cell? ⟨bm, t, none⟩ = some (.pointer (some ⟨Q t, 0, none⟩)) ∧ w'.cell? ⟨bp, 0, none⟩ = some (.int .i64 seq) ∧ w'.cell? ⟨bp, 1, none⟩ = some (.int .i64 ack) ∧ w'.cell? ⟨bp, 2, none⟩ = some (.slice ab nb cb) := by
  have h0 : Sat w w' (sep (RunsA b P bm Q M) (linkR (some ⟨g, 0, none⟩) cl lc (some ⟨gt, 0, none⟩) ct l)) := h.drop.drop
  have h1 : Sat w w' (sep (linkR (some ⟨g, 0, none⟩) cl lc (some ⟨gt, 0, none⟩) ct l) (RunsA b P bm Q M)) := by rw [sep_comm]; exact h0
  have h2 := runs_cells h0 t ht2
  have h3 := linkR_to h1 j hj
  rw [← ht] at h3
  exact ⟨h3, h2.1, h2.2, h.cell 0, h.cell 1, h.cell 2⟩
theorem pk_cells2 {w w' : World} {b : Nat} {P : Nat → Nat} {bm : Nat} {Q : Nat → Nat} {g cl : Nat} {lc : List Value} {gt ct : Nat} {l : List (Pkt × Nat)} {bp : Nat} {seq ack : Int} {ab : Option Addr} {nb cb : Nat} {t : Nat} {X0 X1 X2 X4 X7 X8 : Assn} (ht2 : t < 2) (j : Nat) (hj : j < l.length) (ht : t = l[j].2)
    (h : Sat w w' (sep X0 (sep X1 (sep X2 (sep (blk bp (.cells #[.int .i64 seq, .int .i64 ack, .slice ab nb cb] 40 (0, 0))) (sep X4 (sep (rsl (some ⟨b, 0, none⟩) [ptr (P 0), ptr (P 1)]) (sep (rsl (some ⟨bm, 0, none⟩) [ptr (Q 0), ptr (Q 1)]) (sep X7 (sep X8 (linkR (some ⟨g, 0, none⟩) cl lc (some ⟨gt, 0, none⟩) ct l))))))))))) :
    w'.cell? ⟨gt, j, none⟩ = some (.int .i64 t) ∧ w'.cell? ⟨b, t, none⟩ = some (.pointer (some ⟨P t, 0, none⟩)) ∧ w'.cell? ⟨bm, t, none⟩ = some (.pointer (some ⟨Q t, 0, none⟩)) ∧ w'.cell? ⟨bp, 0, none⟩ = some (.int .i64 seq) ∧ w'.cell? ⟨bp, 1, none⟩ = some (.int .i64 ack) ∧ w'.cell? ⟨bp, 2, none⟩ = some (.slice ab nb cb) := by
  have h0 : Sat w w' (sep (linkR (some ⟨g, 0, none⟩) cl lc (some ⟨gt, 0, none⟩) ct l) emp) := by
    rw [sep_emp]; exact h.drop.drop.drop.drop.drop.drop.drop.drop.drop
  have h3 := linkR_to h0 j hj
  rw [← ht] at h3
  have h1 := h.p3
  exact ⟨h3, two_cellk (f := fun k => ptr (P k)) h.p5 t ht2, two_cellk (f := fun k => ptr (Q k)) h.p6 t ht2, h1.cell 0, h1.cell 1, h1.cell 2⟩
end Go.Proofs.Ytnmkdidhilekiaa
