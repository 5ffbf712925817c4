/- Literals of bytes and of other one-cell elements. -/
import Derived.Test.YtcmjbjlliehdiaaDoorGAuthmapBytes14
import Derived.Test.YtcmjbjlliehdiaaDoorGAuthmapBytes24
namespace Go.Proofs.YtcmjbjlliehdiaaDoor
open Go.RowKit PA
theorem litB {W w : World} {A : Assn} {I : Mem} (h : Sat W w (sep (kn I) A)) (bs : List UInt8) (t : TypeId) (hb : bs.length ≤ maxLen) :
    ∃ J, Mem.le I J ∧ rBytes.rel J [.slice (some ⟨w.heap.size, 0, none⟩) bs.length bs.length] bs ∧ Sat W (w.alloc (.cells (bs.map bv).toArray t)) (sep (kn J) A) := by
  obtain ⟨J, h1, h2, h3⟩ := (h.bytes_of_alloc bs t (0, 0) hb).learn
  exact ⟨J, h1, h2, h3⟩
theorem litI {W w : World} {A : Assn} {I : Mem} (h : Sat W w (sep (kn I) A)) (ns : List Int) (t : TypeId) (hb : ns.length ≤ maxLen) :
    ∃ J, Mem.le I J ∧ (rInt.slice 1).rel J [.slice (some ⟨w.heap.size, 0, none⟩) ns.length ns.length] ns ∧ Sat W (w.alloc (.cells (ns.map iv).toArray t)) (sep (kn J) A) := by
  have h1 := (h.alloc (.cells (ns.map iv).toArray t)).settle
  obtain ⟨J, hle, hp, h2⟩ := (show Sat W _ (sep (imm w.heap.size (.cells (ns.map iv).toArray t)) (sep (kn I) A)) from h1).learn
  refine ⟨J, hle, ints_rel.2 ⟨_, _, rfl, ⟨Nat.le_refl _, hb, fun h => by cases h⟩, .inr ⟨w.heap.size, 0, _, t, (0, 0), rfl, hp, fun i u hu => by simpa using hu⟩⟩, h2⟩
theorem litO {W w : World} {A : Assn} {E : Nat} (h : Sat W w A) (xs : List Value) (n : Nat) (hn : n = xs.length) (hl : n ≤ maxLen) : Sat W (w.alloc (.cells xs.toArray E)) (sep (osl E 1 (some ⟨w.heap.size, 0, none⟩) n n xs) A) := by
  subst hn
  exact (h.alloc (.cells xs.toArray E)).osl_mk xs.length xs.length 1 xs (by simp) (Nat.le_refl _) hl (by simp) (by simp)
theorem nilB (I : Mem) : rBytes.rel I [.slice none 0 0] [] := bytes_rel.2 ⟨none, 0, rfl, ⟨Nat.le_refl _, Nat.zero_le _, fun _ => rfl⟩, .inl rfl⟩
theorem nilI (I : Mem) : (rInt.slice 1).rel I [.slice none 0 0] [] := ints_rel.2 ⟨none, 0, rfl, ⟨Nat.le_refl _, Nat.zero_le _, fun _ => rfl⟩, .inl rfl⟩
end Go.Proofs.YtcmjbjlliehdiaaDoor
