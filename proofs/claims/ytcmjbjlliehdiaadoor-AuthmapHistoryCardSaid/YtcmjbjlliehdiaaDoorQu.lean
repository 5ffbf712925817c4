/- The reference's map: Find. -/
import Derived.Test.YtcmjbjlliehdiaaDoorQs
namespace PA
open Go
theorem AscP.lt {L : PrL} (h : AscP L) {i j : Nat} (hi : i < L.length) (hj : j < L.length) (hij : i < j) : L[i].1 < L[j].1 := by
  have := List.pairwise_iff_getElem.1 h i j (by simpa using hi) (by simpa using hj) hij
  simpa using this
/-- Where the key is found. -/
def findP (L : PrL) (k : Int) : Int := if hasP L k = true then (fndP L k : Nat) else -1
end PA
namespace Go.Proofs.YtcmjbjlliehdiaaDoor
open Go.RowKit PA
set_option maxRecDepth 100000 in
set_option maxHeartbeats 4000000 in
theorem qfind_core {w : World} (q : Nat) (L : PrL) (k : Int) (ha : AscP L) (hl : L.length ≤ 4000) (a : Option Addr) (c : Nat) (c00 : w.cell? ⟨q, 0, none⟩ = some (.slice a L.length c))
    (hc : ∀ i (hi : i < L.length), ∃ g o, a = some ⟨g, o, none⟩ ∧ w.cell? ⟨g, o + i * 2, none⟩ = some (.int .i64 L[i].1)) :
    Calls Tryd.prog 14 #[.pointer (some ⟨q, 0, none⟩), .int .i64 k] w fun e w' => e = .returned (.int .i64 (findP L k)) ∧ w' = w := by
  obtain ⟨n, hn⟩ : ∃ n, n = L.length := ⟨_, rfl⟩
  have c0 : w.cell? ⟨q, 0, none⟩ = some (.slice a n c) := by rw [hn]; exact c00
  have HC := Lib.hid hc
  have HN := Lib.hid hn
  have HA := Lib.hid ha
  have hnl : n ≤ 4000 := by omega
  obtain ⟨r, hr⟩ : ∃ r, r = findP L k := ⟨_, rfl⟩
  rw [← hr]
  have HR := Lib.hid hr
  clear c00 hc hn ha hl hr
  go_enter Tryd.func14, Tryd.ntmps14
  go_wp2
  go_loopw [5] (fun iv' wr => ∃ i : Nat, i ≤ n ∧ iv' = .int .i64 (i : Nat) ∧ wr = w ∧ Hid (∀ j (hj : j < L.length), j < i → L[j].1 ≠ k)) (fun iv' _ => n - (intOf iv').toNat)
  case atStart => exact ⟨0, by omega, rfl, rfl, Lib.hid fun j _ hj => by omega⟩
  case round =>
    obtain ⟨i, hi, rfl, rfl, hno⟩ := hrel
    by_cases hin : i < n
    · have hiL : i < L.length := by rw [← HN.out]; exact hin
      obtain ⟨g, o, rfl, g0⟩ := HC.out i hiL
      obtain ⟨x, hx⟩ : ∃ x, x = L[i].1 := ⟨_, rfl⟩
      rw [← hx] at g0
      have HX := Lib.hid hx
      have hinI : (i : Int) < (n : Int) := by omega
      by_cases hxk : x = k
      · have hB : (x == k) = true := by simp [hxk]
        have hri : r = (i : Int) := by
          have hf : fndP L k = i := by
            have h1 := fndP_le L k
            rcases Nat.lt_trichotomy (fndP L k) i with h2 | h2 | h2
            · exfalso
              have h3 := fndP_ge L k (by omega)
              have h4 := HA.out.lt (i := fndP L k) (by omega) hiL h2
              rw [← hx, hxk] at h4
              exact h3 h4
            · exact h2
            · exfalso
              have := fndP_lt L k i hiL h2
              rw [← hx, hxk] at this
              omega
          have hh : hasP L k = true := by
            unfold hasP
            simp only [hf]
            rw [dif_pos hiL, ← hx]
            exact decide_eq_true hxk
          rw [HR.out, findP, if_pos hh, hf]
        clear hx hxk HX hiL hin
        go_wp2_with fail
        go_ret
        exact ⟨by rw [hri]; rfl, rfl⟩
      · have hB : (x == k) = false := by simp [hxk]
        have hno2 : Hid (∀ j (hj : j < L.length), j < i + 1 → L[j].1 ≠ k) := Lib.hid fun j hj hj2 => by
          rcases Nat.lt_or_ge j i with h1 | h1
          · exact hno.out j hj h1
          · obtain rfl : j = i := by omega
            rw [← hx]; exact hxk
        clear hx hxk HX hiL hin
        go_wp2_with fail
        go_roundw
        case rel => exact ⟨i + 1, by omega, rfl, trivial, hno2⟩
        case measure => simp only [intOf]; omega
    · obtain rfl : i = n := by omega
      have hinI : ¬ (i : Int) < (i : Int) := by omega
      have hri : r = -1 := by
        have hh : ¬ hasP L k = true := by
          intro hh
          unfold hasP at hh
          split at hh
          · rename_i h2
            exact hno.out _ h2 (by rw [HN.out]; exact h2) (of_decide_eq_true hh)
          · cases hh
        rw [HR.out, findP, if_neg hh]
      clear hin
      go_wp2_with fail
      go_ret
      first | exact ⟨by rw [hri]; rfl, rfl⟩ | exact ⟨rfl, rfl⟩
theorem qfind_spec {W w : World} {A : Assn} (q : Nat) (L : PrL) (k : Int) (ha : AscP L) (h : Sat W w (sep (isQM q L) A)) (hl : L.length ≤ 4000) :
    Calls Tryd.prog 14 #[.pointer (some ⟨q, 0, none⟩), .int .i64 k] w fun e w' => e = .returned (.int .i64 (findP L k)) ∧ w' = w := by
  obtain ⟨a, c, cells, h0⟩ := isQM_open h
  refine qfind_core q L k ha hl a c (h0.cell 0) fun i hi => ?_
  obtain ⟨g, b, d, rfl, g0, -⟩ := qm_cells h0.drop i hi
  exact ⟨g, 0, rfl, by rw [Nat.zero_add]; exact g0⟩
/-! ### a map that no longer changes -/
def qmR (I : Mem) (q : Nat) (L : PrL) : Prop := ∃ a c, I q = some (.cells #[.slice a L.length c] 29 (0, 0)) ∧ (rPairQ.slice 2).rel I [.slice a L.length c] L
theorem qmR.mono {I J : Mem} {q : Nat} {L : PrL} (h : Mem.le I J) (hq : qmR I q L) : qmR J q L := by
  obtain ⟨a, c, h1, h2⟩ := hq
  exact ⟨a, c, h _ _ h1, (rPairQ.slice 2).mono h h2⟩
theorem qm_settle {W w : World} {A : Assn} {I : Mem} {q : Nat} {L : PrL} (h : Sat W w (sep (isQM q L) (sep (kn I) A))) : ∃ J, Mem.le I J ∧ qmR J q L ∧ Sat W w (sep (kn J) A) := by
  obtain ⟨a, c, cells, h0⟩ := isQM_open h
  have h1 : Sat W w (sep (osl 34 2 a L.length c cells) (sep ((rPairQ.rows 2).is cells L) (sep (kn I) (sep (blk q (.cells #[.slice a L.length c] 29 (0, 0))) A)))) := by
    simpa only [sep_comm, sep_lcomm, sep_assoc] using h0
  obtain ⟨J1, hJ1, hr, h2⟩ := (h1.slice_of_osl (R := rPairQ) (k := 2) rfl).learn
  obtain ⟨J2, hJ2, hb, h3⟩ := (show Sat W w (sep (imm q (.cells #[.slice a L.length c] 29 (0, 0))) (sep (kn J1) A)) from h2.p1.settle).learn
  exact ⟨J2, Mem.le_trans hJ1 hJ2, ⟨a, c, hb, (rPairQ.slice 2).mono hJ2 hr⟩, h3⟩
/-- What a settled map's cells hold. -/
theorem qm_look {W w : World} {A : Assn} {I : Mem} {q : Nat} {L : PrL} (hq : qmR I q L) (h : Sat W w (sep (kn I) A)) : ∃ a c, w.cell? ⟨q, 0, none⟩ = some (.slice a L.length c) ∧ (rPairQ.slice 2).rel I [.slice a L.length c] L := by
  obtain ⟨a, c, h1, h2⟩ := hq
  exact ⟨a, c, cell_of_row w q 0 _ _ _ (h.ext _ _ h1), h2⟩
theorem qfind_kn {W w : World} {A : Assn} {I : Mem} (q : Nat) (L : PrL) (k : Int) (ha : AscP L) (hq : qmR I q L) (h : Sat W w (sep (kn I) A)) (hl : L.length ≤ 4000) :
    Calls Tryd.prog 14 #[.pointer (some ⟨q, 0, none⟩), .int .i64 k] w fun e w' => e = .returned (.int .i64 (findP L k)) ∧ w' = w := by
  obtain ⟨a, c, h1, h2⟩ := qm_look hq h
  refine qfind_core q L k ha hl a c h1 fun i hi => ?_
  obtain ⟨b, o, va, vc, rfl, g0, -⟩ := pair_at h h2 i hi
  exact ⟨b, o, rfl, g0⟩
theorem lk_find {L : PrL} (ha : AscP L) (k : Int) : (findP L k < 0) ↔ lkP L k = none := by
  unfold findP
  rw [hasP_lk ha k]
  cases h : lkP L k with
  | none => simp
  | some v => simp
end Go.Proofs.YtcmjbjlliehdiaaDoor
