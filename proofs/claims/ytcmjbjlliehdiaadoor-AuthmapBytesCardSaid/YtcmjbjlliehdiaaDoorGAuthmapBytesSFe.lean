/- Few; a cell of an owned row. -/
import Derived.Test.YtcmjbjlliehdiaaDoorGAuthmapBytes14
import Derived.Deep.DeepCutAuto
import Derived.Test.YtcmjbjlliehdiaaDoorReg2
namespace Go.Proofs.YtcmjbjlliehdiaaDoor
open Go.RowKit PA
theorem few_any {W w : World} {A : Assn} (a : Option Addr) (c : Nat) (l : List UInt8) (m : Nat) (h : Sat W w A) (hsw : Swf a l.length c) (hsrc : ∀ b, a = some b → ∀ j u, (l.map bv)[j]? = some u → w.cell? (b.add j) = some u) (hm : m ≤ 1073741824) :
    Calls Tryd.prog 25 #[.slice a l.length c, .int .i64 (m : Nat)] w fun e w' => ∃ a c, e = .returned (.slice a (l.take m).length c) ∧ Sat W w' (sep (osl 5 1 a (l.take m).length c ((l.take m).map bv)) A) := by
  have hcI : (c : Int) ≤ 9223372036854775807 := by have := hsw.2.1; unfold maxLen at this; omega
  obtain ⟨n, hn⟩ : ∃ n, n = l.length := ⟨_, rfl⟩
  obtain ⟨k, hk⟩ : ∃ k, k = (l.take m).length := ⟨_, rfl⟩
  have hkm : k = min m n := by rw [hk, hn, List.length_take]
  rw [← hn] at hsw ⊢
  rw [← hk]
  have hmin : (if m < n then (m : Int) else (n : Int)) = (k : Int) := by split <;> omega
  obtain ⟨vs, hvs⟩ : ∃ vs, vs = (l.take m).map bv := ⟨_, rfl⟩
  have hkn : k ≤ n := by omega
  have hkc : k ≤ c := by have := hsw.1; omega
  have hnc : n ≤ c := hsw.1
  have hkb : k ≤ 1073741824 := by omega
  have h3 := hsw.2.2
  have hlen : vs.length = k * 1 := by rw [hvs, List.length_map, ← hk, Nat.mul_one]
  have hone : ∀ u ∈ vs, u.oneCell' = true := by rw [hvs]; exact bv_one _
  have hsrc2 : ∀ b, a = some b → ∀ j u, vs[j]? = some u → w.cell? (b.add j) = some u := fun b hb j u hu => hsrc b hb j u (by
    rw [hvs, List.map_take, List.getElem?_take] at hu
    split at hu
    · exact hu
    · cases hu)
  have HKB := Lib.hid hkb
  have HLEN := Lib.hid hlen
  have HSRC := Lib.hid hsrc2
  have H3 := Lib.hid h3
  have HNIL : a = none → k = 0 := fun e => by have := h3 e; omega
  have HNIL' := Lib.hid HNIL
  have HB := h.osl_nil 5 1
  have HVS := Lib.hid hvs
  have HONE := Lib.hid hone
  clear hsrc hsw hn hk hkm hkb hlen hsrc2 h3 HNIL hm h hvs hone
  cases a with
  | none =>
    have hc0 := H3.out rfl
    subst hc0
    obtain rfl : n = 0 := by omega
    obtain rfl : k = 0 := by omega
    go_enter Tryd.func25, Tryd.ntmps25
    go_wp2_with (at_builtin; (refine wpl_append_osl rfl (.tmp 6) (.tmp 12) 32 rfl 5 1 1 (.int .u8 0) Tryd.underlying32 infoU8c rfl rfl HB rfl vs HLEN.out HNIL'.out HSRC.out HONE.out (by have := HKB.out; omega) (by have := HKB.out; unfold maxLen; omega) ?_))
    intro a2 c2 w2 hS
    clear HB
    go_wp2_with fail
    go_ret
    rw [← HVS.out]
    exact ⟨a2, c2, by simp, by simpa using hS⟩
  | some ad =>
    go_enter Tryd.func25, Tryd.ntmps25
    go_wp2_with (at_builtin; (refine wpl_append_osl rfl (.tmp 6) (.tmp 12) 32 rfl 5 1 1 (.int .u8 0) Tryd.underlying32 infoU8c rfl rfl HB rfl vs HLEN.out HNIL'.out HSRC.out HONE.out (by have := HKB.out; omega) (by have := HKB.out; unfold maxLen; omega) ?_))
    intro a2 c2 w2 hS
    clear HB
    go_wp2_with fail
    go_ret
    rw [← HVS.out]
    exact ⟨a2, c2, by simp, by simpa using hS⟩
theorem few_spec {W w : World} {A : Assn} {I : Mem} (v : Value) (l : List UInt8) (m : Nat) (h : Sat W w (sep (kn I) A)) (hv : rBytes.rel I [v] l) (hm : m ≤ 1073741824) :
    Calls Tryd.prog 25 #[v, .int .i64 (m : Nat)] w fun e w' => ∃ a c, e = .returned (.slice a (l.take m).length c) ∧ Sat W w' (sep (osl 5 1 a (l.take m).length c ((l.take m).map bv)) (sep (kn I) A)) := by
  obtain ⟨a, c, rfl, hsw, hc⟩ := bytes_rel.1 hv
  exact few_any a c l m h hsw (src_ext hc h.ext) hm
/-- A cell of an owned row is written. -/
theorem _root_.PA.Sat.osl_set {W w : World} {A : Assn} {E : Nat} {a : Option Addr} {n c : Nat} {xs : List Value} (h : Sat W w (sep (osl E 1 a n c xs) A)) (k : Nat) (hk : k < xs.length) (v : Value) :
    ∃ g, a = some ⟨g, 0, none⟩ ∧ w.cell? ⟨g, k, none⟩ = some xs[k] ∧ w.frozen? ⟨g, k, none⟩ = false ∧ Sat W (w.setCell ⟨g, k, none⟩ v) (sep (osl E 1 a n c (xs.set k v)) A) := by
  rcases h.osl_cases with ⟨rfl, rfl, rfl, rfl, _⟩ | ⟨g, cur, rfl, hlen, hnc, hcm, hcs, htake, hS⟩
  · simp at hk
  · simp only [Nat.mul_one] at hlen hcs htake
    have hkc : k < cur.size := by omega
    refine ⟨g, rfl, ?_, hS.unfrozen k, ?_⟩
    · rw [hS.cell k, Array.getElem?_eq_getElem hkc]
      congr 1
      have : (cur.toList.take n)[k]? = xs[k]? := by rw [htake]
      rw [List.getElem?_take, if_pos (by omega), List.getElem?_eq_getElem hk] at this
      simpa [hkc] using this
    · refine (hS.setCell k v).osl_mk n c 1 (xs.set k v) (by simp [hlen]) hnc hcm (by simp [hcs]) ?_
      rw [Nat.mul_one, Array.toList_setIfInBounds, List.take_set, htake]
end Go.Proofs.YtcmjbjlliehdiaaDoor
