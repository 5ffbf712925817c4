/- Ints; the operations that numbers stand for. -/
import Derived.Test.YtbniekblkbdidaaR9
namespace Go.Proofs.Ytbniekblkbdidaa
open Go.RowKit PA
theorem rel_takeI {I : Mem} {a : Option Addr} {n c : Nat} {l : List Int} (k : Nat) (hk : k ≤ n) (hv : (rInt.slice 1).rel I [.slice a n c] l) : (rInt.slice 1).rel I [.slice a k c] (l.take k) ∧ (l.take k).length = k ∧ Swf a k c := by
  obtain ⟨a', c', e, hw, hc⟩ := ints_rel.1 hv
  simp only [Value.slice.injEq] at e
  obtain ⟨rfl, rfl, rfl⟩ := e
  have hl : (l.take k).length = k := by rw [List.length_take]; omega
  have hsw : Swf a k c := ⟨by have := hw.1; omega, hw.2.1, hw.2.2⟩
  refine ⟨ints_rel.2 ⟨a, c, by rw [hl], by rw [hl]; exact hsw, ?_⟩, hl, hsw⟩
  rcases hc with hc | ⟨b', o', cs, t, f, e1, e2, e3⟩
  · left
    have : l = [] := by simpa using hc
    rw [this]; simp
  · right
    refine ⟨b', o', cs, t, f, e1, e2, fun i u hu => e3 i u ?_⟩
    rw [List.map_take, List.getElem?_take] at hu
    split at hu
    · exact hu
    · cases hu
theorem iv_one (l : List Int) : ∀ u ∈ l.map iv, u.oneCell' = true := by
  intro u hu
  obtain ⟨b, _, rfl⟩ := List.mem_map.1 hu
  rfl
theorem ints01_spec {W w : World} {A : Assn} {I : Mem} (a : Option Addr) (n c : Nat) (l : List Int) (m : Nat) (h : Sat W w (sep (kn I) A)) (hv : (rInt.slice 1).rel I [.slice a n c] l) (hm : m ≤ 1073741824) :
    Calls Try.prog 31 #[.slice a n c, .int .i64 (m : Nat)] w fun e w' => ∃ a' c', e = .returned (.slice a' (l.take m).length c') ∧ Sat W w' (sep (osl 3 1 a' (l.take m).length c' ((l.take m).map iv)) (sep (kn I) A)) := by
  obtain ⟨k, hk⟩ : ∃ k, k = min n m := ⟨_, rfl⟩
  have hnl : n = l.length := by
    obtain ⟨a', c', e, -⟩ := ints_rel.1 hv
    simp only [Value.slice.injEq] at e
    exact e.2.1
  obtain ⟨hr, hl, hsw⟩ := rel_takeI k (by omega) hv
  have hlt : l.take k = l.take m := by
    rcases Nat.le_total n m with h1 | h1
    · rw [hk, Nat.min_eq_left h1, List.take_of_length_le (by omega), List.take_of_length_le (by omega)]
    · rw [hk, Nat.min_eq_right h1]
  rw [hlt] at hr hl
  have hsw0 : n ≤ c ∧ c ≤ 9223372036854775807 := by
    obtain ⟨a', c', e, hw, -⟩ := ints_rel.1 hv
    simp only [Value.slice.injEq] at e
    obtain ⟨rfl, h1, rfl⟩ := e
    exact ⟨by rw [h1]; exact hw.1, hw.2.1⟩
  obtain ⟨a', c', e, -, hc⟩ := ints_rel.1 hr
  simp only [Value.slice.injEq] at e
  obtain ⟨rfl, -, rfl⟩ := e
  have hsrc := src_ext hc h.ext
  have hn0 : a = none → k = 0 := fun e => by have := hsw.2.2 e; have := hsw.1; omega
  have hmI : min (n : Int) (m : Int) = (k : Int) := by omega
  have hkc : (k : Int) ≤ (c : Int) := by omega
  have hk0 : (0 : Int) ≤ (k : Int) := by omega
  obtain ⟨ys, hys⟩ : ∃ ys, ys = l.take m := ⟨_, rfl⟩
  rw [← hys] at hl hsrc ⊢
  rw [hl]
  have h1 := h.osl_nil 3 1
  have HSRC := Lib.hid hsrc
  have HN0 := Lib.hid hn0
  have HL := Lib.hid hl
  have hkm : k ≤ 1073741824 := by omega
  clear h hv hnl hr hlt hsw hc hsrc hn0 hk hys hl
  go_enter Try.func31, Try.ntmps31
  go_wp2_with (at_builtin; refine wpl_append_osl rfl (.tmp 6) (.tmp 12) 33 rfl 3 1 8 (.int .i64 0) Try.underlying33 infoInt rfl rfl h1 rfl (ys.map iv) (by rw [List.length_map, HL.out]; simp) HN0.out HSRC.out (iv_one ys) (by omega) (by unfold maxLen; omega) ?_)
  intro a4 c4 w4 h4
  go_wp2_with fail
  go_ret
  exact ⟨a4, c4, by simp, by simpa using h4⟩
theorem infoOp : (Try.prog.info? 48).map (fun i => (i.zero, i.size, i.bytes)) = some (some (.agg #[.int .i64 0, .int .i64 0, .int .i64 0, .slice none 0 0, .slice none 0 0]), 5, 72) := by kernel_rfl
end Go.Proofs.Ytbniekblkbdidaa
