/- slices.Index, Contains of ints; title.ofFile. -/
import Derived.Test.YtfapiopnjllnnaaGreatDoorGTitleChainST4
namespace Go.Proofs.YtfapiopnjllnnaaGreatDoor
open Go.RowKit PA
theorem indexOf_spec {W w : World} {A : Assn} (xs : List Int) (n c : Nat) (v : Int) (C : Nat) (hn : xs.length = n) (h6 : n ≤ 65536) (h : Sat W w (sep (blk C (.cells (xs.map fun z => Value.int .i64 z).toArray 3 (0, 0))) A)) :
    Calls Tryz.prog 107 #[.slice (some ⟨C, 0, none⟩) n c, .int .i64 v] w fun e w' => ∃ r, e = .returned (.int .i64 r) ∧ (0 ≤ r ↔ v ∈ xs) ∧ w = w' := by
  have H := Lib.hid h
  have HN := Lib.hid hn
  clear h hn
  go_enter Tryz.func107, Tryz.ntmps107
  go_wp2
  go_loopw [8] (fun kv wr => ∃ k : Nat, kv = .int .i64 k ∧ k ≤ n ∧ Hid (∀ x ∈ xs.take k, x ≠ v) ∧ wr = w) (fun kv _ => n - (intOf kv).toNat)
  case atStart => exact ⟨0, rfl, by omega, Lib.hid (by simp), rfl⟩
  case round =>
    obtain ⟨k, rfl, hk, HK, rfl⟩ := hrel
    by_cases hlt : k < n
    · have hltz : (k : Int) < (n : Int) := by omega
      have hkl : k < xs.length := by rw [HN.out]; exact hlt
      obtain ⟨x, hx⟩ : ∃ x, x = xs[k] := ⟨_, rfl⟩
      have c0 : wr.cell? ⟨C, k, none⟩ = some (.int .i64 x) := by rw [H.out.cell k]; simp [hkl, hx]
      have HX := Lib.hid hx
      have hkI : (k : Int) < 65536 := by omega
      clear hx
      by_cases e1 : v = x
      · subst e1
        go_wp2
        go_ret
        exact ⟨(k : Int), rfl, ⟨fun _ => by rw [HX.out]; exact List.getElem_mem hkl, fun _ => by omega⟩, rfl⟩
      · have b1 : (v == x) = false := by simp [e1]
        have HE := Lib.hid e1
        clear e1
        go_wp2
        go_roundw
        case rel =>
          refine ⟨k + 1, by go_num, by omega, Lib.hid fun y hy => ?_, by first | rfl | trivial⟩
          rw [List.take_succ_eq_append_getElem hkl] at hy
          rcases List.mem_append.1 hy with hy | hy
          · exact HK.out y hy
          · rw [List.mem_singleton.1 hy, ← HX.out]; exact fun e => HE.out e.symm
        case measure => simp [intOf]; omega
    · obtain rfl : k = n := by omega
      go_wp2
      go_ret
      refine ⟨-1, rfl, ⟨fun e => by omega, fun e => absurd rfl (HK.out v (by rw [List.take_of_length_le (by rw [HN.out]; exact Nat.le_refl _)]; exact e))⟩, by first | rfl | trivial⟩
theorem contains_spec {W w : World} {A : Assn} (xs : List Int) (n c : Nat) (v : Int) (C : Nat) (hn : xs.length = n) (h6 : n ≤ 65536) (h : Sat W w (sep (blk C (.cells (xs.map fun z => Value.int .i64 z).toArray 3 (0, 0))) A)) :
    Calls Tryz.prog 77 #[.slice (some ⟨C, 0, none⟩) n c, .int .i64 v] w fun e w' => e = .returned (.bool (decide (v ∈ xs))) ∧ w = w' := by
  have hi := Lib.hid (indexOf_spec xs n c v C hn h6 h)
  obtain ⟨b, hb⟩ : ∃ b, b = decide (v ∈ xs) := ⟨_, rfl⟩
  rw [← hb]
  have HB := Lib.hid hb
  clear h hn h6 hb
  go_enter Tryz.func77, Tryz.ntmps77
  go_wp2_with fail
  refine hi.out.mono ?_
  rintro e w2 ⟨r, rfl, hr, rfl⟩
  have HRR := Lib.hid hr
  clear hr hi
  by_cases h0 : 0 ≤ r
  · go_wp2
    go_ret
    exact ⟨by rw [HB.out, decide_eq_true (HRR.out.1 h0)]; rfl, rfl⟩
  · go_wp2
    go_ret
    refine ⟨?_, rfl⟩
    have hm : v ∉ xs := fun e => by have := HRR.out.2 e; omega
    have hz : decide (0 ≤ r) = false := decide_eq_false (by omega)
    show Ending.returned (Value.bool (decide (0 ≤ r))) = _
    rw [hz, HB.out, decide_eq_false hm]
theorem ofFile_spec {W w : World} {A : Assn} (k : Int) (h : Sat W w A) :
    Calls Tryz.prog 54 #[.int .i64 k] w fun e w' => e = .returned (.bool (ofFileB k)) ∧ Sat W w' A := by
  have h1 := h.alloc (.cells ([5, 19, 20, 21].map fun z => Value.int .i64 z).toArray 3)
  have hc := contains_spec [5, 19, 20, 21] 4 4 k w.heap.size rfl (by omega) h1
  obtain ⟨b, hb⟩ : ∃ b, b = decide (k ∈ ([5, 19, 20, 21] : List Int)) := ⟨_, rfl⟩
  rw [← hb] at hc
  have e : ofFileB k = !b := by
    rw [hb]
    unfold ofFileB
    simp only [List.mem_cons, List.not_mem_nil, or_false]
    by_cases q1 : k = 5 <;> by_cases q2 : k = 19 <;> by_cases q3 : k = 20 <;> by_cases q4 : k = 21 <;> simp_all
  rw [e]
  have HC := Lib.hid hc
  have H1 := Lib.hid h1.drop
  clear h h1 hc hb e
  go_enter Tryz.func54, Tryz.ntmps54
  go_wp2_with fail
  refine HC.out.mono ?_
  rintro e w2 ⟨rfl, rfl⟩
  go_wp2
  go_ret
  exact ⟨rfl, H1.out⟩
end Go.Proofs.YtfapiopnjllnnaaGreatDoor
