/- Few; a cell of an owned row. -/
import Derived.Test.YtdaknmcmjnbfeaaGreatGJournalRuns9
import Derived.Deep.DeepCutAuto
import Derived.Test.YtdaknmcmjnbfeaaGreatReg2
import Derived.Test.YtdaknmcmjnbfeaaGreatGJournalRuns14
namespace Go.Proofs.YtdaknmcmjnbfeaaGreat
open Go.RowKit PA
/-- A cell of an owned row is written. -/
theorem _root_.PA.Sat.osl_set {W w : World} {A : Assn} {E : Nat} {a : Option Addr} {n c : Nat} {xs : List Value} (h : Sat W w (sep (osl E 1 a n c xs) A)) (k : Nat) (hk : k < xs.length) (v : Value) :
    ∃ g, a = some ⟨g, 0, none⟩ ∧ w.cell? ⟨g, k, none⟩ = some xs[k] ∧ w.frozen? ⟨g, k, none⟩ = false ∧ Sat W (w.setCell ⟨g, k, none⟩ v) (sep (osl E 1 a n c (xs.set k v)) A) := by
  rcases h.osl_cases with ⟨rfl, rfl, rfl, rfl, _⟩ | ⟨g, cur, rfl, hlen, hnc, hcm, hcs, htake, hS⟩
  · simp at hk
  · simp only [Nat.mul_one] at hlen hcs htake
    have hkc : k < cur.size := by omega
    refine ⟨g, rfl, ?_, hS.unfrozen k, ?_⟩
    · rw [hS.cell k, Array.getElem?_eq_getElem hkc]
      congr 1
      have : (cur.toList.take n)[k]? = xs[k]? := by rw [htake]
      rw [List.getElem?_take, if_pos (by omega), List.getElem?_eq_getElem hk] at this
      simpa [hkc] using this
    · refine (hS.setCell k v).osl_mk n c 1 (xs.set k v) (by simp [hlen]) hnc hcm (by simp [hcs]) ?_
      rw [Nat.mul_one, Array.toList_setIfInBounds, List.take_set, htake]
end Go.Proofs.YtdaknmcmjnbfeaaGreat
/- Package disk: Rot. -/
namespace Go.Proofs.YtdaknmcmjnbfeaaGreat
open Go.RowKit PA
theorem xor_u8 (a b : Nat) (ha : a < 256) (hb : b < 256) : bits .xor .u8 (a : Int) (b : Int) = ((a ^^^ b : Nat) : Int) ∧ a ^^^ b < 256 := by
  have hx : a ^^^ b < 256 := Nat.xor_lt_two_pow (n := 8) ha hb
  refine ⟨?_, hx⟩
  show IntKind.u8.wrap ((BitVec.ofInt 8 (a : Int) ^^^ BitVec.ofInt 8 (b : Int)).toNat : Int) = _
  rw [BitVec.toNat_xor, BitVec.ofInt_natCast, BitVec.ofInt_natCast, BitVec.toNat_ofNat, BitVec.toNat_ofNat, Nat.mod_eq_of_lt (by simpa using ha), Nat.mod_eq_of_lt (by simpa using hb)]
  exact wraps_u8 _ (by omega) (by have : a ^^^ b < 2 ^ 8 := hx
                                  exact_mod_cast this)
/-- What the code makes of a byte whose bit k is inverted. -/
theorem flip_val (x : UInt8) (k : Nat) : bits .xor .u8 (x.toNat : Int) (IntKind.u8.wrap ((2 : Int) ^ (7 - k))) = ((flipB x k).toNat : Int) := by
  have h1 : 2 ^ (7 - k) < 2 ^ 8 := Nat.pow_lt_pow_right (by omega) (by omega)
  have h2 : IntKind.u8.wrap ((2 : Int) ^ (7 - k)) = ((2 ^ (7 - k) : Nat) : Int) := by
    have : ((2 ^ (7 - k) : Nat) : Int) = (2 : Int) ^ (7 - k) := by push_cast; rfl
    rw [← this]
    exact wraps_u8 _ (Int.natCast_nonneg _) (by have := Int.ofNat_lt.2 (show 2 ^ (7 - k) < 256 from h1); simpa using this)
  rw [h2, (xor_u8 _ _ x.toNat_lt h1).1, flipB_toNat]
end Go.Proofs.YtdaknmcmjnbfeaaGreat
