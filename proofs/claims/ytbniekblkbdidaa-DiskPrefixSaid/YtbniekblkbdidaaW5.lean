/- Package wire: the reader's Uint, Int, End. -/
import Derived.Test.YtbniekblkbdidaaW4
namespace Go.Proofs.Ytbniekblkbdidaa
open Go.RowKit PA
theorem isRd_cell_ok {W w : World} {A : Assn} {T p : Nat} {l : List UInt8} (h : Sat W w (sep (isRd T p (.ok l)) A)) : w.cell? ⟨p, 1, none⟩ = some (.int .i64 0) := by
  obtain ⟨a, c, -, h1⟩ := isRd_ok h
  exact h1.cell 1
theorem isRd_cell_er {W w : World} {A : Assn} {T p : Nat} {e : Int} (h : Sat W w (sep (isRd T p (.error e)) A)) : w.cell? ⟨p, 1, none⟩ = some (.int .i64 e) ∧ 0 < e := by
  obtain ⟨he, a, n, c, h1⟩ := isRd_er h
  exact ⟨h1.cell 1, he⟩
def URel (W : World) (A : Assn) (T p : Nat) (l0 : List UInt8) (nv iv : Value) (wr : World) : Prop :=
  ∃ i : Nat, iv = .int .i64 (i : Nat) ∧ i ≤ 10 ∧ ((∃ (n : Nat) (l : List UInt8), nv = .int .u64 (n : Nat) ∧ i ≤ 9 ∧ n < 128 ^ i ∧ uintGo i n l = uintP l0 ∧ l.length ≤ 1073742900 ∧ Sat W wr (sep (isRd T p (.ok l)) A)) ∨
    (∃ (n e : Int), nv = .int .u64 n ∧ uintP l0 = .error e ∧ Sat W wr (sep (isRd T p (.error e)) A)))
theorem uintGo_bad (i n : Nat) (c : UInt8) (l : List UInt8) (h : (i = 9 ∧ 1 < c.toNat) ∨ (0 < i ∧ c.toNat = 0)) : uintGo i n (c :: l) = .error 2 := by rw [uintGo, if_pos h]
theorem uintGo_end (i n : Nat) (c : UInt8) (l : List UInt8) (h : ¬ ((i = 9 ∧ 1 < c.toNat) ∨ (0 < i ∧ c.toNat = 0))) (hs : c.toNat < 128) : uintGo i n (c :: l) = .ok (n + c.toNat * 128 ^ i, l) := by rw [uintGo, if_neg h, if_pos hs]
theorem uintGo_on (i n : Nat) (c : UInt8) (l : List UInt8) (h : ¬ ((i = 9 ∧ 1 < c.toNat) ∨ (0 < i ∧ c.toNat = 0))) (hs : ¬ c.toNat < 128) : uintGo i n (c :: l) = uintGo (i + 1) (n + (c.toNat - 128) * 128 ^ i) l := by rw [uintGo, if_neg h, if_neg hs]
end Go.Proofs.Ytbniekblkbdidaa
