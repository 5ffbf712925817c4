/- Package wire: the writer. -/
import Derived.Test.YtcnonbhhlbplpaaH5
namespace Go.Proofs.Ytcnonbhhlbplpaa
open Go.RowKit PA
theorem infoU8w : (Try.prog.info? 5).map (fun i => (i.zero, i.size, i.bytes)) = some (some (.int .u8 0), 1, 1) := by kernel_rfl
def isWr (p : Nat) (bs : List UInt8) : Assn := ex fun a : Option Addr => ex fun n : Nat => ex fun c : Nat => sep (blk p (.cells #[.slice a n c] 55 (0, 0))) (osl 5 1 a n c (bs.map bv))
theorem isWr_open {W w : World} {A : Assn} {p : Nat} {bs : List UInt8} (h : Sat W w (sep (isWr p bs) A)) : ∃ a n c, n = bs.length ∧ Sat W w (sep (blk p (.cells #[.slice a n c] 55 (0, 0))) (sep (osl 5 1 a n c (bs.map bv)) A)) := by
  simp only [isWr, ex_sep, Sat.ex, sep_assoc] at h
  obtain ⟨a, n, c, h⟩ := h
  have := h.p1.osl_len.1
  exact ⟨a, n, c, by simpa using this.symm, h⟩
theorem isWr_mk {W w : World} {A : Assn} {p : Nat} {bs : List UInt8} {a : Option Addr} {n c : Nat} (h : Sat W w (sep (blk p (.cells #[.slice a n c] 55 (0, 0))) (sep (osl 5 1 a n c (bs.map bv)) A))) : Sat W w (sep (isWr p bs) A) := by
  simp only [isWr, ex_sep, Sat.ex, sep_assoc]
  exact ⟨a, n, c, h⟩
set_option maxHeartbeats 1000000 in
theorem wuint_spec {W w : World} {A : Assn} (p : Nat) (bs : List UInt8) (x : Nat) (hx : x < 18446744073709551616) (h : Sat W w (sep (isWr p bs) A)) (hb : bs.length ≤ 1073741824) :
    Calls Try.prog 45 #[.pointer (some ⟨p, 0, none⟩), .int .u64 (x : Nat)] w fun e w' => e = .returned (.tuple #[]) ∧ Sat W w' (sep (isWr p (bs ++ Lib.uvarint x)) A) := by
  have HX := Lib.hid hx
  have HB := Lib.hid hb
  clear hx hb
  go_enter Try.func45, Try.ntmps45
  go_wp2_with fail
  go_loopw [1] (fun nv wr => ∃ (y : Nat) (pre : List UInt8), nv = .int .u64 (y : Nat) ∧ Hid (y < 18446744073709551616 ∧ pre ++ Lib.uvarint y = Lib.uvarint x) ∧ Sat W wr (sep (isWr p (bs ++ pre)) A)) (fun nv _ => (intOf nv).toNat)
  case atStart => exact ⟨x, [], rfl, Lib.hid ⟨HX.out, rfl⟩, by simpa using h⟩
  case round =>
    clear h
    obtain ⟨y, pre, rfl, HY, hS⟩ := hrel
    have hpl : pre.length ≤ 10 := by
      have := congrArg List.length HY.out.2
      have := Lib.uvarint_length64 HX.out
      simp at *; omega
    obtain ⟨a, n, c, hn, h1⟩ := isWr_open hS
    have hnb : n ≤ 1073741834 := by rw [hn, List.length_append]; have := HB.out; omega
    have HN := Lib.hid hnb
    have c1 : wr.cell? ⟨p, 0, none⟩ = some (.slice a n c) := h1.cell 0
    obtain ⟨vs, hvs⟩ : ∃ vs, vs = (bs ++ pre).map bv := ⟨_, rfl⟩
    rw [← hvs] at h1
    have HVS := Lib.hid hvs
    have hS' := h1.p1
    clear hn hpl hnb hS hvs
    by_cases hy : 128 ≤ y
    · have hyI : (128 : Int) ≤ (y : Int) := by omega
      obtain ⟨z, hz⟩ : ∃ z : UInt8, z = (y % 128 + 128).toUInt8 := ⟨_, rfl⟩
      have hor : bits BinOp.or IntKind.u8 ((y : Int) % 256) 128 = (z.toNat : Int) := by
        rw [Lib.u8_or128_any _ (by omega) (by omega), hz]
        simp; omega
      have hB := (hS'.alloc0 (.cells #[.int .u8 (z.toNat : Int)] 5))
      have HZ := Lib.hid hz
      clear hz h1 hS'
      go_wp2_with (at_builtin; (refine wpl_append_osl rfl (.tmp 12) (.tmp 16) 29 rfl 5 1 1 (.int .u8 0) Try.underlying29 infoU8w rfl rfl hB rfl [.int .u8 (z.toNat : Int)] rfl (by simp) (by intro b hb; cases hb; exact new_src _ [_] _) (by simp [Value.oneCell']) (by have := HN.out; omega) (by have := HN.out; unfold maxLen; omega) ?_))
      intro a2 c2 w2 h2
      have h3 := h2.p1
      have c2' : w2.cell? ⟨p, 0, none⟩ = some (.slice a n c) := h3.cell 0
      have f2' : w2.frozen? ⟨p, 0, none⟩ = false := h3.unfrozen 0
      have h4 : Sat W (w2.setCell ⟨p, 0, none⟩ (.slice a2 (n + 1) c2)) (sep (blk p (.cells #[.slice a2 (n + 1) c2] 55 (0, 0))) (sep (osl 5 1 a2 (n + 1) c2 (vs ++ [.int .u8 (z.toNat : Int)])) A)) := h3.setCell 0 _
      clear hB h2 h3 c1
      go_wp2_with fail
      go_roundw
      case rel =>
        refine ⟨y / 128, pre ++ [z], by go_num, Lib.hid ⟨by have := HY.out.1; omega, ?_⟩, isWr_mk (a := a2) (n := n + 1) (c := c2) ?_⟩
        · rw [List.append_assoc, ← HY.out.2, Lib.uvarint_big hy, ← HZ.out]; rfl
        · rw [← List.append_assoc, List.map_append, ← HVS.out]; exact h4
      case measure => simp [intOf]; omega
    · have hyB : decide ((128 : Int) ≤ (y : Int)) = false := by simp; omega
      have HY128 := Lib.hid hy
      obtain ⟨z, hz⟩ : ∃ z : UInt8, z = y.toUInt8 := ⟨_, rfl⟩
      have hzy : z.toNat = y := by
        rw [hz]; simp; omega
      have hor : ((y : Int) % 256) = (z.toNat : Int) := by omega
      have hB := (hS'.alloc0 (.cells #[.int .u8 (z.toNat : Int)] 5))
      have HZ := Lib.hid hz
      clear hz h1 hS' hzy hy
      go_wp2_with (at_builtin; (refine wpl_append_osl rfl (.tmp 24) (.tmp 27) 29 rfl 5 1 1 (.int .u8 0) Try.underlying29 infoU8w rfl rfl hB rfl [.int .u8 (z.toNat : Int)] rfl (by simp) (by intro b hb; cases hb; exact new_src _ [_] _) (by simp [Value.oneCell']) (by have := HN.out; omega) (by have := HN.out; unfold maxLen; omega) ?_))
      intro a2 c2 w2 h2
      have h3 := h2.p1
      have c2' : w2.cell? ⟨p, 0, none⟩ = some (.slice a n c) := h3.cell 0
      have f2' : w2.frozen? ⟨p, 0, none⟩ = false := h3.unfrozen 0
      have h4 : Sat W (w2.setCell ⟨p, 0, none⟩ (.slice a2 (n + 1) c2)) (sep (blk p (.cells #[.slice a2 (n + 1) c2] 55 (0, 0))) (sep (osl 5 1 a2 (n + 1) c2 (vs ++ [.int .u8 (z.toNat : Int)])) A)) := h3.setCell 0 _
      clear hB h2 h3 c1
      go_wp2_with fail
      go_end0
      refine ⟨rfl, isWr_mk (a := a2) (n := n + 1) (c := c2) ?_⟩
      rw [← HY.out.2, Lib.uvarint_small (by have := HY128.out; omega), ← HZ.out, ← List.append_assoc, List.map_append, ← HVS.out, List.map_cons, List.map_nil, bv]; exact h4
end Go.Proofs.Ytcnonbhhlbplpaa
