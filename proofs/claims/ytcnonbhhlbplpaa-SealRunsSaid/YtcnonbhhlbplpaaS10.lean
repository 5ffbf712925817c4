/- The reference's Bytes of a number. -/
import Derived.Test.YtcnonbhhlbplpaaS7
import Derived.Test.YtcnonbhhlbplpaaAr
namespace PA
open Go Go.RowKit
def genN (k : Nat) : List UInt8 := (List.range (k % 9)).map fun i => UInt8.ofNat (k / (3 * i + 1))
def genB (n : Int) : List UInt8 := genN (((if n < 0 then -(n + 1) else n) % 1048576).toNat)
theorem genN_len (k : Nat) : (genN k).length = k % 9 := by simp [genN]
theorem genB_len (n : Int) : (genB n).length ≤ 8 := by unfold genB; rw [genN_len]; omega
end PA
namespace Go.Proofs.Ytcnonbhhlbplpaa
open Go.RowKit PA
theorem infoU8g : (Try.prog.info? 5).map (fun i => (i.zero, i.size, i.bytes)) = some (some (.int .u8 0), 1, 1) := by kernel_rfl
set_option maxRecDepth 100000 in
set_option maxHeartbeats 2000000 in
theorem rsbytes_spec {W w : World} {A : Assn} (n : Int) (h1 : -9223372036854775808 ≤ n) (h2 : n ≤ 9223372036854775807) (h : Sat W w A) :
    Calls Try.prog 15 #[.int .i64 n] w fun e w' => ∃ a c, e = .returned (.slice a (genB n).length c) ∧ Sat W w' (sep (osl 5 1 a (genB n).length c ((genB n).map bv)) A) := by
  have har := around_spec n 1048576 w h1 h2 (by omega) (by omega)
  have hb := aroundI_lt n 1048576 (by omega)
  obtain ⟨k, hk⟩ : ∃ k : Nat, (k : Int) = aroundI n 1048576 := ⟨(aroundI n 1048576).toNat, by omega⟩
  rw [← hk] at har hb
  have e : genB n = genN k := by unfold genB; unfold aroundI at hk; rw [← hk]; rfl
  rw [e]
  have hkb : (k : Int) < 1048576 := hb.2
  obtain ⟨m, hm⟩ : ∃ m, m = k % 9 := ⟨_, rfl⟩
  have hm1 : (k : Int).tmod 9 = (m : Int) := by rw [Int.tmod_eq_emod_of_nonneg (by omega)]; omega
  have hm2 : (k : Int) % 9 = (m : Int) := by omega
  have hm9 : (m : Int) < 9 := by omega
  obtain ⟨B, hB⟩ : ∃ B, B = genN k := ⟨_, rfl⟩
  have hBl : B.length = m := by rw [hB, genN_len, hm]
  have hBg : ∀ i (hi : i < B.length), B[i] = UInt8.ofNat (k / (3 * i + 1)) := fun i hi => by subst hB; simp [genN]
  rw [← hB, hBl]
  have HAR := Lib.hid har
  have HBL := Lib.hid hBl
  have HBG := Lib.hid hBg
  have h0 := h.osl_nil 5 1
  have hkm1 : (k : Int).tmod 9 = (m : Int) := hm1
  clear har hb hk e hm hB hBl hBg h h1 h2
  go_enter Try.func15, Try.ntmps15
  go_wp2_with fail
  refine HAR.out.mono ?_
  rintro e w' ⟨rfl, rfl⟩
  clear HAR
  go_wp2_with fail
  go_loopw [4, 5] (fun lv iv' wr => ∃ i : Nat, i ≤ m ∧ iv' = .int .i64 i ∧ ∃ a2 c2, lv = .slice a2 i c2 ∧ Sat W wr (sep (osl 5 1 a2 i c2 ((B.map bv).take i)) A)) (fun _ iv' _ => m - (intOf iv').toNat)
  case atStart => exact ⟨0, Nat.zero_le _, rfl, none, 0, rfl, by simpa using h0⟩
  case round =>
    clear h0
    obtain ⟨i, hi, rfl, a2, c2, rfl, hS⟩ := hrel
    by_cases him : i < m
    · have hil : i < B.length := by rw [HBL.out]; exact him
      obtain ⟨y, hy⟩ : ∃ y, y = B[i] := ⟨_, rfl⟩
      have hq0 : ((k / (3 * i + 1) : Nat) : Int) = (k : Int) / (3 * (i : Int) + 1) := by push_cast; rfl
      obtain ⟨q, hq⟩ : ∃ q, q = k / (3 * i + 1) := ⟨_, rfl⟩
      have hq1 : (k : Int).tdiv (3 * (i : Int) + 1) = (q : Int) := by rw [Int.tdiv_eq_ediv_of_nonneg (by omega), hq, hq0]
      have hq2 : (k : Int) / (3 * (i : Int) + 1) = (q : Int) := by rw [hq, hq0]
      have hyn : y.toNat = q % 256 := by rw [hy, HBG.out i hil, ← hq]; simp
      have hwq : IntKind.u8.wrap (q : Int) = (y.toNat : Int) := by
        rw [hyn]
        show IntKind.u8.wrap (q : Int) = _
        rw [IntKind.wrap_u8]; omega
      have hqb : q ≤ k := by rw [hq]; exact Nat.div_le_self _ _
      have hqI : (q : Int) < 1048576 := by omega
      have hd0 : ¬ (3 * (i : Int) + 1) = 0 := by omega
      have HY := Lib.hid hy
      have hiI : (i : Int) < m := by omega
      have hB := hS.alloc0 (.cells #[.int .u8 (y.toNat : Int)] 5)
      have HIM := Lib.hid him
      clear hy hS hq hq0 hyn hqb him
      go_wp2_with (at_builtin; (refine wpl_append_osl rfl (.tmp 14) (.tmp 21) 29 rfl 5 1 1 (.int .u8 0) Try.underlying29 infoU8g rfl rfl hB rfl [.int .u8 (y.toNat : Int)] rfl (by simp) (by intro b hb; cases hb; exact new_src _ [_] _) (by simp [Value.oneCell']) (by omega) (by unfold maxLen; omega) ?_))
      intro a3 c3 w3 hS4
      go_wp2_with fail
      go_roundw
      case rel =>
        refine ⟨i + 1, by have := HIM.out; omega, by go_num, a3, c3, rfl, ?_⟩
        have e1 : (B.map bv).take (i + 1) = (B.map bv).take i ++ [.int .u8 (y.toNat : Int)] := by
          rw [List.take_succ_eq_append_getElem (by rw [List.length_map]; exact hil), List.getElem_map, ← HY.out]; rfl
        rw [e1]; exact hS4
      case measure => have := HIM.out; simp [intOf]; omega
    · obtain rfl : i = m := by omega
      have hiI : ¬ (i : Int) < i := by omega
      have HS := Lib.hid hS
      clear hS
      go_wp2_with fail
      go_ret
      refine ⟨a2, c2, rfl, ?_⟩
      have := HS.out
      rwa [List.take_of_length_le (by rw [List.length_map, HBL.out]; exact Nat.le_refl _)] at this
end Go.Proofs.Ytcnonbhhlbplpaa
