/- SealBinds, in plain; a cell of an owned slice. -/
import Derived.Test.YtcnonbhhlbplpaaS1
import Derived.Test.YtcnonbhhlbplpaaDt
namespace PA
open Go Go.RowKit
theorem bytesN_lt (l b : List UInt8) : bytesN l b < 18446744073709551616 := sumU_lt _ _
theorem commit_sum (b : List UInt8) (s : Nat) (hs : s < 18446744073709551616) : commitN b s = sumU sealL [s, bytesN sealedL b] := by
  unfold commitN sumN
  simp only [List.map_cons, List.map_nil]
  rw [PA.u64N_i64 s hs, PA.u64N_i64 _ (bytesN_lt _ _)]
theorem commit_hash (b b' : List UInt8) (s : Nat) (hs : s < 18446744073709551616) : commitN b s = commitN b' s ↔ bytesN sealedL b = bytesN sealedL b' := by
  rw [commit_sum _ _ hs, commit_sum _ _ hs]
  constructor
  · intro h
    exact sumU_set sealL [s] [] _ _ (by simpa using hs) (by simp) (bytesN_lt _ _) (bytesN_lt _ _) h
  · intro h; rw [h]
theorem commit_salt (b : List UInt8) (s s' : Nat) (hs : s < 18446744073709551616) (hs' : s' < 18446744073709551616) : commitN b s = commitN b s' ↔ s = s' := by
  rw [commit_sum _ _ hs, commit_sum _ _ hs']
  constructor
  · intro h
    exact sumU_set sealL [] [bytesN sealedL b] _ _ (by simp) (by simpa using bytesN_lt _ _) hs hs' h
  · intro h; rw [h]
end PA
namespace Go.Proofs.Ytcnonbhhlbplpaa
open Go.RowKit PA
theorem _root_.PA.Sat.osl_set {W w : World} {A : Assn} {E : Nat} {a : Option Addr} {n c : Nat} {xs : List Value} (h : Sat W w (sep (osl E 1 a n c xs) A)) (k : Nat) (hk : k < xs.length) (v : Value) :
    ∃ g, a = some ⟨g, 0, none⟩ ∧ w.cell? ⟨g, k, none⟩ = some xs[k] ∧ w.frozen? ⟨g, k, none⟩ = false ∧ Sat W (w.setCell ⟨g, k, none⟩ v) (sep (osl E 1 a n c (xs.set k v)) A) := by
  rcases h.osl_cases with ⟨rfl, rfl, rfl, rfl, _⟩ | ⟨g, cur, rfl, hlen, hnc, hcm, hcs, htake, hS⟩
  · simp at hk
  · simp only [Nat.mul_one] at hlen hcs htake
    have hkc : k < cur.size := by omega
    refine ⟨g, rfl, ?_, hS.unfrozen k, ?_⟩
    · rw [hS.cell k, Array.getElem?_eq_getElem hkc]
      congr 1
      have : (cur.toList.take n)[k]? = xs[k]? := by rw [htake]
      rw [List.getElem?_take, if_pos (by omega), List.getElem?_eq_getElem hk] at this
      simpa [hkc] using this
    · refine (hS.setCell k v).osl_mk n c 1 (xs.set k v) (by simp [hlen]) hnc hcm (by simp [hcs]) ?_
      rw [Nat.mul_one, Array.toList_setIfInBounds, List.take_set, htake]
end Go.Proofs.Ytcnonbhhlbplpaa
