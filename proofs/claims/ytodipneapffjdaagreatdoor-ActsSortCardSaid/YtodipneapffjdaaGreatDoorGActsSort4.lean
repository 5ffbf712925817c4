/- Package wire: the writer. -/
import Derived.Test.YtodipneapffjdaaGreatDoorGActsSort3
import Derived.Lib.Varint
import Derived.Lib.Zigzag
import Derived.Lib.EndianBits
import Derived.Laws.Bits64
import Derived.WalkKit
import Derived.Lib.AppendStr
import Derived.Test.YtodipneapffjdaaGreatDoorRows
import Derived.BigQuiet
import Derived.Deep.QuietTactic
import Derived.LoopTactic
import Derived.OpenShut
import Derived.Laws.BytesString
import Derived.Lib.SliceRun
import Derived.Laws.IdiomStrings
namespace Go.Proofs.YtodipneapffjdaaGreatDoor
open Go.RowKit PA
theorem infoU8w : (Tryz.prog.info? 5).map (fun i => (i.zero, i.size, i.bytes)) = some (some (.int .u8 0), 1, 1) := by kernel_rfl
def isWr (p : Nat) (bs : List UInt8) : Assn := ex fun a : Option Addr => ex fun n : Nat => ex fun c : Nat => sep (blk p (.cells #[.slice a n c] 74 (0, 0))) (osl 5 1 a n c (bs.map bv))
theorem isWr_open {W w : World} {A : Assn} {p : Nat} {bs : List UInt8} (h : Sat W w (sep (isWr p bs) A)) : ∃ a n c, n = bs.length ∧ Sat W w (sep (blk p (.cells #[.slice a n c] 74 (0, 0))) (sep (osl 5 1 a n c (bs.map bv)) A)) := by
  simp only [isWr, ex_sep, Sat.ex, sep_assoc] at h
  obtain ⟨a, n, c, h⟩ := h
  have := h.p1.osl_len.1
  exact ⟨a, n, c, by simpa using this.symm, h⟩
theorem isWr_mk {W w : World} {A : Assn} {p : Nat} {bs : List UInt8} {a : Option Addr} {n c : Nat} (h : Sat W w (sep (blk p (.cells #[.slice a n c] 74 (0, 0))) (sep (osl 5 1 a n c (bs.map bv)) A))) : Sat W w (sep (isWr p bs) A) := by
  simp only [isWr, ex_sep, Sat.ex, sep_assoc]
  exact ⟨a, n, c, h⟩
set_option maxHeartbeats 1000000 in
theorem wuint_spec {W w : World} {A : Assn} (p : Nat) (bs : List UInt8) (x : Nat) (hx : x < 18446744073709551616) (h : Sat W w (sep (isWr p bs) A)) (hb : bs.length ≤ 1073741824) :
    Calls Tryz.prog 61 #[.pointer (some ⟨p, 0, none⟩), .int .u64 (x : Nat)] w fun e w' => e = .returned (.tuple #[]) ∧ Sat W w' (sep (isWr p (bs ++ Lib.uvarint x)) A) := by
  have HX := Lib.hid hx
  have HB := Lib.hid hb
  clear hx hb
  go_enter Tryz.func61, Tryz.ntmps61
  go_wp2_with fail
  go_loopw [1] (fun nv wr => ∃ (y : Nat) (pre : List UInt8), nv = .int .u64 (y : Nat) ∧ Hid (y < 18446744073709551616 ∧ pre ++ Lib.uvarint y = Lib.uvarint x) ∧ Sat W wr (sep (isWr p (bs ++ pre)) A)) (fun nv _ => (intOf nv).toNat)
  case atStart => exact ⟨x, [], rfl, Lib.hid ⟨HX.out, rfl⟩, by simpa using h⟩
  case round =>
    clear h
    obtain ⟨y, pre, rfl, HY, hS⟩ := hrel
    have hpl : pre.length ≤ 10 := by
      have := congrArg List.length HY.out.2
      have := Lib.uvarint_length64 HX.out
      simp at *; omega
    obtain ⟨a, n, c, hn, h1⟩ := isWr_open hS
    have hnb : n ≤ 1073741834 := by rw [hn, List.length_append]; have := HB.out; omega
    have HN := Lib.hid hnb
    have c1 : wr.cell? ⟨p, 0, none⟩ = some (.slice a n c) := h1.cell 0
    obtain ⟨vs, hvs⟩ : ∃ vs, vs = (bs ++ pre).map bv := ⟨_, rfl⟩
    rw [← hvs] at h1
    have HVS := Lib.hid hvs
    have hS' := h1.p1
    clear hn hpl hnb hS hvs
    by_cases hy : 128 ≤ y
    · have hyI : (128 : Int) ≤ (y : Int) := by omega
      obtain ⟨z, hz⟩ : ∃ z : UInt8, z = (y % 128 + 128).toUInt8 := ⟨_, rfl⟩
      have hor : bits BinOp.or IntKind.u8 ((y : Int) % 256) 128 = (z.toNat : Int) := by
        rw [Lib.u8_or128_any _ (by omega) (by omega), hz]
        simp; omega
      have hB := (hS'.alloc0 (.cells #[.int .u8 (z.toNat : Int)] 5))
      have HZ := Lib.hid hz
      clear hz h1 hS'
      go_wp2_with (at_builtin; (refine wpl_append_osl rfl (.tmp 12) (.tmp 16) 50 rfl 5 1 1 (.int .u8 0) Tryz.underlying50 infoU8w rfl rfl hB rfl [.int .u8 (z.toNat : Int)] rfl (by simp) (by intro b hb; cases hb; exact new_src _ [_] _) (by simp [Value.oneCell']) (by have := HN.out; omega) (by have := HN.out; unfold maxLen; omega) ?_))
      intro a2 c2 w2 h2
      have h3 := h2.p1
      have c2' : w2.cell? ⟨p, 0, none⟩ = some (.slice a n c) := h3.cell 0
      have f2' : w2.frozen? ⟨p, 0, none⟩ = false := h3.unfrozen 0
      have h4 : Sat W (w2.setCell ⟨p, 0, none⟩ (.slice a2 (n + 1) c2)) (sep (blk p (.cells #[.slice a2 (n + 1) c2] 74 (0, 0))) (sep (osl 5 1 a2 (n + 1) c2 (vs ++ [.int .u8 (z.toNat : Int)])) A)) := h3.setCell 0 _
      clear hB h2 h3 c1
      go_wp2_with fail
      go_roundw
      case rel =>
        refine ⟨y / 128, pre ++ [z], by go_num, Lib.hid ⟨by have := HY.out.1; omega, ?_⟩, isWr_mk (a := a2) (n := n + 1) (c := c2) ?_⟩
        · rw [List.append_assoc, ← HY.out.2, Lib.uvarint_big hy, ← HZ.out]; rfl
        · rw [← List.append_assoc, List.map_append, ← HVS.out]; exact h4
      case measure => simp [intOf]; omega
    · have hyB : decide ((128 : Int) ≤ (y : Int)) = false := by simp; omega
      have HY128 := Lib.hid hy
      obtain ⟨z, hz⟩ : ∃ z : UInt8, z = y.toUInt8 := ⟨_, rfl⟩
      have hzy : z.toNat = y := by
        rw [hz]; simp; omega
      have hor : ((y : Int) % 256) = (z.toNat : Int) := by omega
      have hB := (hS'.alloc0 (.cells #[.int .u8 (z.toNat : Int)] 5))
      have HZ := Lib.hid hz
      clear hz h1 hS' hzy hy
      go_wp2_with (at_builtin; (refine wpl_append_osl rfl (.tmp 24) (.tmp 27) 50 rfl 5 1 1 (.int .u8 0) Tryz.underlying50 infoU8w rfl rfl hB rfl [.int .u8 (z.toNat : Int)] rfl (by simp) (by intro b hb; cases hb; exact new_src _ [_] _) (by simp [Value.oneCell']) (by have := HN.out; omega) (by have := HN.out; unfold maxLen; omega) ?_))
      intro a2 c2 w2 h2
      have h3 := h2.p1
      have c2' : w2.cell? ⟨p, 0, none⟩ = some (.slice a n c) := h3.cell 0
      have f2' : w2.frozen? ⟨p, 0, none⟩ = false := h3.unfrozen 0
      have h4 : Sat W (w2.setCell ⟨p, 0, none⟩ (.slice a2 (n + 1) c2)) (sep (blk p (.cells #[.slice a2 (n + 1) c2] 74 (0, 0))) (sep (osl 5 1 a2 (n + 1) c2 (vs ++ [.int .u8 (z.toNat : Int)])) A)) := h3.setCell 0 _
      clear hB h2 h3 c1
      go_wp2_with fail
      go_end0
      refine ⟨rfl, isWr_mk (a := a2) (n := n + 1) (c := c2) ?_⟩
      rw [← HY.out.2, Lib.uvarint_small (by have := HY128.out; omega), ← HZ.out, ← List.append_assoc, List.map_append, ← HVS.out, List.map_cons, List.map_nil, bv]; exact h4
end Go.Proofs.YtodipneapffjdaaGreatDoor
/- The wire's numbers in plain. No program in sight. -/
namespace PA
open Go RowKit
theorem bits_xor_comm (k : IntKind) (x y : Int) : bits .xor k x y = bits .xor k y x := by
  show IntKind.wrap k ((BitVec.ofInt k.bits x ^^^ BitVec.ofInt k.bits y).toNat : Int) = IntKind.wrap k ((BitVec.ofInt k.bits y ^^^ BitVec.ofInt k.bits x).toNat : Int)
  rw [BitVec.xor_comm]
theorem zz_val (n : Int) (h1 : -9223372036854775808 ≤ n) (h2 : n ≤ 9223372036854775807) :
    bits .xor .u64 (IntKind.u64.wrap (IntKind.u64.wrap n * 2)) (IntKind.u64.wrap (n / 9223372036854775808)) = (Lib.zigzag n : Nat) := by
  by_cases h : 0 ≤ n
  · have e1 : IntKind.u64.wrap (n / 9223372036854775808) = ((0 : Nat) : Int) := by rw [IntKind.wrap_u64]; omega
    have e2 : IntKind.u64.wrap (IntKind.u64.wrap n * 2) = ((2 * n).toNat : Nat) := by rw [IntKind.wrap_u64, IntKind.wrap_u64]; omega
    rw [e1, e2, bits_xor_u64_nat _ _ (by omega) (by decide), Nat.xor_zero]
    unfold Lib.zigzag; rw [if_pos h]
  · have e1 : IntKind.u64.wrap (n / 9223372036854775808) = IntKind.u64.max := by
      rw [IntKind.wrap_u64, show IntKind.u64.max = 18446744073709551615 by decide]; omega
    rw [e1, bits_xor_comm]
    exact Lib.zigzag_neg h1 (by omega)
def encI (n : Int) : List UInt8 := Lib.uvarint (Lib.zigzag n)
def encR (b : List UInt8) : List UInt8 := Lib.uvarint b.length ++ b
/-- A reader: the bytes that are left, or the error. -/
abbrev RSt := Except Int (List UInt8)
end PA
/- 'append' of a string onto an owned row of bytes. Plain Lean, no program in sight. -/
namespace PA
open Go Go.RowKit
section
variable {P : Program} {W w : World} {A : Assn}
end
end PA
/- Slices of elements of several cells; bytes from a literal; Around, SameBytes. -/
namespace PA
open Go Go.RowKit
section
variable {W w : World} {A : Assn}
end
end PA
namespace Go.Proofs.YtodipneapffjdaaGreatDoor
open Go.RowKit PA
theorem i64_of_wf {a : Int} (h : (Lit.int .i64 a).wf = true) : -9223372036854775808 ≤ a ∧ a ≤ 9223372036854775807 := bounds_i64 h
def aroundI (n m : Int) : Int := (if n < 0 then -(n + 1) else n) % m
theorem aroundI_lt (n m : Int) (h : 0 < m) : 0 ≤ aroundI n m ∧ aroundI n m < m := by
  unfold aroundI; exact ⟨Int.emod_nonneg _ (by omega), Int.emod_lt_of_pos _ h⟩
theorem ret_i {a b : Int} (h : a = b) : Ending.returned (.int .i64 a) = .returned (.int .i64 b) := by rw [h]
theorem ret_b {a b : Bool} (h : a = b) : Ending.returned (.bool a) = .returned (.bool b) := by rw [h]
set_option maxHeartbeats 400000 in
theorem around_spec (n m : Int) (w : World) (hn : -9223372036854775808 ≤ n) (hn2 : n ≤ 9223372036854775807) (hm : 1 ≤ m) (hm2 : m ≤ 9223372036854775807) :
    Calls Tryz.prog 5 #[.int .i64 n, .int .i64 m] w fun e w' => e = .returned (.int .i64 (aroundI n m)) ∧ w = w' := by
  by_cases h : n < 0
  · go_enter Tryz.func5, Tryz.ntmps5
    go_wp2
    go_ret
    exact ⟨ret_i (by unfold aroundI; rw [if_pos h, ← Int.neg_tmod, Int.tmod_eq_emod_of_nonneg (by omega)]), rfl⟩
  · go_enter Tryz.func5, Tryz.ntmps5
    go_wp2
    go_ret
    exact ⟨ret_i (by unfold aroundI; rw [if_neg (by omega)]), rfl⟩
theorem bv_cell {bs : List UInt8} {i : Nat} (h : i < bs.length) : (bs.map bv)[i]? = some (.int .u8 (bs[i].toNat : Int)) := by
  rw [List.getElem?_map, List.getElem?_eq_getElem h]; rfl
set_option maxHeartbeats 1000000 in
theorem sameBytes_spec {W w : World} {A : Assn} (v u : Value) (x y : List UInt8) (h : Sat W w (sep (rBytes.is [v] x) (sep (rBytes.is [u] y) A))) :
    Calls Tryz.prog 17 #[v, u] w fun e w' => e = .returned (.bool (decide (x = y))) ∧ Sat W w' (sep (rBytes.is [v] x) (sep (rBytes.is [u] y) A)) := by
  obtain ⟨a, c, rfl, hw1, hx⟩ := h.bytes_open
  obtain ⟨b', d, rfl, hw2, hy⟩ := h.p1.bytes_open
  have hl1 : (x.length : Int) ≤ 9223372036854775807 := by have := hw1.1; have := hw1.2.1; unfold maxLen at this; omega
  have hl2 : (y.length : Int) ≤ 9223372036854775807 := by have := hw2.1; have := hw2.2.1; unfold maxLen at this; omega
  obtain ⟨nx, hnx⟩ : ∃ nx, nx = x.length := ⟨_, rfl⟩
  obtain ⟨ny, hny⟩ : ∃ ny, ny = y.length := ⟨_, rfl⟩
  rw [← hnx] at hl1 hw1
  rw [← hny] at hl2 hw2
  have HX := Lib.hid hx
  have HY := Lib.hid hy
  have HNX := Lib.hid hnx
  have HNY := Lib.hid hny
  rw [← hnx, ← hny] at h
  have H := Lib.hid h
  rw [← hnx, ← hny]
  clear h hx hy hw1 hw2
  by_cases hne : nx = ny
  · subst hne
    clear hnx hny
    go_enter Tryz.func17, Tryz.ntmps17
    go_wp2
    go_loopw [5] (fun i wr => ∃ k : Nat, k ≤ nx ∧ i = .int .i64 k ∧ x.take k = y.take k ∧ ∃ n, wr = w.drewN n) (fun i _ => nx - (intOf i).toNat)
    case atStart => exact ⟨0, Nat.zero_le _, rfl, rfl, 0, rfl⟩
    case round =>
      obtain ⟨k, hk, rfl, htk, nd, rfl⟩ := hrel
      have HT := Lib.hid htk
      clear htk
      by_cases hlt : k < nx
      · have k1 : k < x.length := by have := HNX.out; omega
        have k2 : k < y.length := by have := HNY.out; omega
        obtain ⟨b1, o1, rfl, hc1⟩ := HX.out.rsl_at (by intro e; have := congrArg List.length e; rw [List.length_map, List.length_nil] at this; omega)
        obtain ⟨b2, o2, rfl, hc2⟩ := HY.out.rsl_at (by intro e; have := congrArg List.length e; rw [List.length_map, List.length_nil] at this; omega)
        have g1 := hc1 k _ (bv_cell k1)
        have g2 := hc2 k _ (bv_cell k2)
        clear hc1 hc2
        by_cases hxy : x[k] = y[k]
        · have b1 : ((x[k].toNat : Int) != (y[k].toNat : Int)) = false := by rw [hxy]; simp
          have HXY := Lib.hid hxy
          clear hxy
          go_wp2_with fail
          refine wp_region_canon rfl (fun _ => True) [(0, .p), (1, .p), (2, .p), (3, .t), (4, .p), (5, .p), (6, .p), (7, .t), (8, .p)] (by kernel_rfl) ?_
          have hS0 : True := trivial
          (repeat ((first | (refine C_p (v := ?_) rfl rfl (fun w' => ?_) ?_; rotate_left; (go_simp; with_reducible rfl)) | (refine C_s (v := ?_) rfl rfl hS0 (fun w' hS => ?_) ?_; rotate_left; ((try dsimp only at hS); go_simp; with_reducible rfl)) | (refine C_t (v := ?_) rfl rfl ?_ ?_; rotate_left; (go_simp; with_reducible rfl)) | (refine C_po rfl rfl ?_) | (refine C_so rfl rfl hS0 ?_) | (refine C_to rfl rfl ?_)); simp only [Act.put, List.setIfInBounds_toArray, List.set_cons_zero, List.set_cons_succ]))
          refine C_nil ?_
          go_wp2
          go_roundw
          case rel => exact ⟨k + 1, by omega, by go_num, by rw [List.take_succ_eq_append_getElem k1, List.take_succ_eq_append_getElem k2, HT.out, HXY.out], nd + 1, rfl⟩
          case measure => simp [intOf]; omega
        · have b1 : ((x[k].toNat : Int) != (y[k].toNat : Int)) = true := by simp; intro e; exact hxy (UInt8.toNat_inj.1 (by exact_mod_cast e))
          have HXY := Lib.hid hxy
          clear hxy
          go_wp2_with fail
          refine wp_region_canon rfl (fun _ => True) [(0, .p), (1, .p), (2, .p), (3, .t), (4, .p), (5, .p), (6, .p), (7, .t), (8, .p)] (by kernel_rfl) ?_
          have hS0 : True := trivial
          (repeat ((first | (refine C_p (v := ?_) rfl rfl (fun w' => ?_) ?_; rotate_left; (go_simp; with_reducible rfl)) | (refine C_s (v := ?_) rfl rfl hS0 (fun w' hS => ?_) ?_; rotate_left; ((try dsimp only at hS); go_simp; with_reducible rfl)) | (refine C_t (v := ?_) rfl rfl ?_ ?_; rotate_left; (go_simp; with_reducible rfl)) | (refine C_po rfl rfl ?_) | (refine C_so rfl rfl hS0 ?_) | (refine C_to rfl rfl ?_)); simp only [Act.put, List.setIfInBounds_toArray, List.set_cons_zero, List.set_cons_succ]))
          refine C_nil ?_
          go_wp2
          go_ret
          refine ⟨ret_b (Eq.symm (decide_eq_false (fun e => HXY.out (by subst e; rfl)))), H.out.alike rfl rfl rfl rfl⟩
      · go_wp2
        go_ret
        have hkn : k = nx := by omega
        refine ⟨ret_b (Eq.symm (decide_eq_true ?_)), H.out.alike rfl rfl rfl rfl⟩
        have := HT.out
        rw [hkn] at this
        rw [List.take_of_length_le (by have := HNX.out; omega), List.take_of_length_le (by have := HNY.out; omega)] at this
        exact this
  · have b1 : ((nx : Int) != (ny : Int)) = true := by simp; omega
    go_enter Tryz.func17, Tryz.ntmps17
    go_wp2
    go_ret
    refine ⟨ret_b (Eq.symm (decide_eq_false (fun e => hne ?_))), H.out⟩
    rw [HNX.out, HNY.out, e]
end Go.Proofs.YtodipneapffjdaaGreatDoor
/- slices.Clone of bytes. -/
namespace Go.Proofs.YtodipneapffjdaaGreatDoor
open Go.RowKit PA
theorem infoU8c : (Tryz.prog.info? 5).map (fun i => (i.zero, i.size, i.bytes)) = some (some (.int .u8 0), 1, 1) := by kernel_rfl
theorem clone_any {W w : World} {A : Assn} (a : Option Addr) (n c : Nat) (xs : List Value) (h : Sat W w A) (hsrc : ∀ b, a = some b → ∀ j u, xs[j]? = some u → w.cell? (b.add j) = some u) (hl : xs.length = n) (hw : Swf a n c) (h1 : ∀ u ∈ xs, u.oneCell' = true) (hn : n ≤ 140737488355328) :
    Calls Tryz.prog 70 #[.slice a n c] w fun e w' => ∃ a' c', e = .returned (.slice a' n c') ∧ Sat W w' (sep (osl 5 1 a' n c' xs) A) := by
  obtain ⟨hw1, hw2, hw3⟩ := hw
  have hq := fun w a n c => Lib.run_eql_slice_nil (P := Tryz.prog) w 50 5 a n c 0 0 Tryz.underlying50
  cases a with
  | none =>
    obtain rfl := hw3 rfl
    obtain rfl : n = 0 := by omega
    obtain rfl : xs = [] := List.eq_nil_of_length_eq_zero hl
    clear hsrc
    go_enter Tryz.func70, Tryz.ntmps70
    go_wp2
    go_ret
    exact ⟨_, _, rfl, h.osl_nil _ _⟩
  | some b =>
    have hS := (h.alloc (.cells #[] 5)).osl_mk 0 0 1 [] rfl (by omega) (by unfold maxLen; omega) rfl rfl
    have hc2 := Lib.hid (old_src (hsrc b rfl) (.cells #[] 5))
    have HN := Lib.hid hn
    have HW2 := Lib.hid hw2
    have HW1 := Lib.hid hw1
    clear hsrc hn hw1 hw2 hw3
    go_enter Tryz.func70, Tryz.ntmps70
    go_wp2_with (at_builtin; refine wpl_append_osl rfl _ _ 50 rfl 5 1 1 (.int .u8 0) Tryz.underlying50 infoU8c rfl rfl hS rfl xs (by omega) (by simp) (by intro b' hb; cases hb; exact hc2.out) h1 (by have := HN.out; omega) (by have := HN.out; unfold maxLen; omega) ?_)
    intro a' c' w' hS'
    go_wp2
    go_ret
    refine ⟨a', c', ?_, ?_⟩
    · simp
    · simpa using hS'
/-- What is owned, as an append's source. -/
theorem _root_.PA.Sat.osl_src {W w : World} {A : Assn} {E : Nat} {a : Option Addr} {n c : Nat} {xs : List Value} (h : Sat W w (sep (osl E 1 a n c xs) A)) : ∀ b, a = some b → ∀ j u, xs[j]? = some u → w.cell? (b.add j) = some u := by
  intro b hb j u hu
  obtain ⟨g, e, hc⟩ := h.osl_at (fun e => by rw [e] at hu; simp at hu)
  rw [hb] at e; cases e
  have := hc j u hu
  unfold Addr.add
  split
  · rename_i e; subst e; exact this
  · simpa using this
end Go.Proofs.YtodipneapffjdaaGreatDoor
/- Package wire: zigzag, Int, Text, Raw, Done; the reference's Uint, Int, Raw. -/
namespace Go.Proofs.YtodipneapffjdaaGreatDoor
open Go.RowKit PA
theorem zigzag_spec (n : Int) (w : World) (h1 : -9223372036854775808 ≤ n) (h2 : n ≤ 9223372036854775807) : Calls Tryz.prog 62 #[.int .i64 n] w fun e w' => e = .returned (.int .u64 (Lib.zigzag n : Nat)) ∧ w = w' := by
  go_enter Tryz.func62, Tryz.ntmps62
  go_wp2
  go_ret
  exact ⟨ret_int (zz_val n h1 h2), rfl⟩
theorem rzigzag_spec (n : Int) (w : World) (h1 : -9223372036854775808 ≤ n) (h2 : n ≤ 9223372036854775807) : Calls Tryz.prog 55 #[.int .i64 n] w fun e w' => e = .returned (.int .u64 (Lib.zigzag n : Nat)) ∧ w = w' := by
  by_cases h0 : n < 0
  · go_enter Tryz.func55, Tryz.ntmps55
    go_wp2
    go_ret
    exact ⟨ret_int (by show 2 * -(n + 1) + 1 = _; unfold Lib.zigzag; rw [if_neg (by omega)]; omega), rfl⟩
  · go_enter Tryz.func55, Tryz.ntmps55
    go_wp2
    go_ret
    exact ⟨ret_int (by show 2 * n = _; unfold Lib.zigzag; rw [if_pos (by omega)]; omega), rfl⟩
theorem wint_spec {W w : World} {A : Assn} (p : Nat) (bs : List UInt8) (n : Int) (h1 : -9223372036854775808 ≤ n) (h2 : n ≤ 9223372036854775807) (h : Sat W w (sep (isWr p bs) A)) (hb : bs.length ≤ 1073741824) :
    Calls Tryz.prog 36 #[.pointer (some ⟨p, 0, none⟩), .int .i64 n] w fun e w' => e = .returned (.tuple #[]) ∧ Sat W w' (sep (isWr p (bs ++ PA.encI n)) A) := by
  have hz := Lib.zigzag_lt h1 h2
  have HZ := Lib.hid hz
  have HB := Lib.hid hb
  clear hz hb
  go_enter Tryz.func36, Tryz.ntmps36
  go_wp2_with fail
  refine (zigzag_spec n _ h1 h2).mono ?_
  rintro e w2 ⟨rfl, rfl⟩
  go_wp2_with fail
  refine (wuint_spec p bs (Lib.zigzag n) HZ.out h HB.out).mono ?_
  rintro e w3 ⟨rfl, hS⟩
  go_wp2_with fail
  go_end0
  exact ⟨rfl, hS⟩
theorem wdone_spec {W w : World} {A : Assn} (p : Nat) (bs : List UInt8) (h : Sat W w (sep (isWr p bs) A)) (hb : bs.length ≤ 1073742900) :
    Calls Tryz.prog 41 #[.pointer (some ⟨p, 0, none⟩)] w fun e w' => ∃ a c, e = .returned (.slice a bs.length c) ∧ Sat W w' (sep (osl 5 1 a bs.length c (bs.map bv)) (sep (isWr p bs) A)) := by
  obtain ⟨a, n, c, hn, h1⟩ := isWr_open h
  have c1 : w.cell? ⟨p, 0, none⟩ = some (.slice a n c) := h1.cell 0
  have hsw := h1.p1.swf_of_osl
  have hsrc := h1.p1.osl_src
  rw [← hn] at hb ⊢
  have hcl := clone_any a n c (bs.map bv) h1 hsrc (by rw [List.length_map, hn]) hsw (bv_one bs) (by omega)
  have HCL := Lib.hid hcl
  clear h h1 hn hsw hsrc hcl hb
  go_enter Tryz.func41, Tryz.ntmps41
  go_wp2_with fail
  refine HCL.out.mono ?_
  rintro e w2 ⟨a2, c2, rfl, hS⟩
  clear c1
  go_wp2_with fail
  go_ret
  refine ⟨a2, c2, rfl, ?_⟩
  have h2 := isWr_mk (a := a) (n := n) (c := c) (p := p) (bs := bs) (A := sep (osl 5 1 a2 n c2 (bs.map bv)) A) (by simpa only [sep_comm, sep_lcomm, sep_assoc] using hS)
  exact h2.p1
end Go.Proofs.YtodipneapffjdaaGreatDoor
/- The reference's Uint, Int, Raw. -/
namespace Go.Proofs.YtodipneapffjdaaGreatDoor
open Go.RowKit PA
set_option maxHeartbeats 1000000 in
theorem ruint_spec {W w : World} {A : Assn} (x : Nat) (hx : x < 18446744073709551616) (h : Sat W w A) :
    Calls Tryz.prog 54 #[.int .u64 (x : Nat)] w fun e w' => ∃ a c, e = .returned (.slice a (Lib.uvarint x).length c) ∧ Sat W w' (sep (osl 5 1 a (Lib.uvarint x).length c ((Lib.uvarint x).map bv)) A) := by
  have HX := Lib.hid hx
  clear hx
  go_enter Tryz.func54, Tryz.ntmps54
  go_wp2_with fail
  go_loopw [0, 3] (fun nv ov wr => ∃ (y : Nat) (pre : List UInt8) (a : Option Addr) (n c : Nat) (vs : List Value), nv = .int .u64 (y : Nat) ∧ ov = .slice a n c ∧ Hid (vs = pre.map bv ∧ n = pre.length ∧ y < 18446744073709551616 ∧ pre ++ Lib.uvarint y = Lib.uvarint x) ∧ Sat W wr (sep (osl 5 1 a n c vs) A)) (fun nv _ _ => (intOf nv).toNat)
  case atStart => exact ⟨x, [], none, 0, 0, [], rfl, rfl, Lib.hid ⟨rfl, rfl, HX.out, rfl⟩, h.osl_nil _ _⟩
  case round =>
    clear h
    obtain ⟨y, pre, a, n, c, vs, rfl, rfl, HY, hS⟩ := hrel
    have hnb : n ≤ 10 := by
      have h1 := congrArg List.length HY.out.2.2.2
      have h2 := Lib.uvarint_length64 HX.out
      rw [HY.out.2.1]; simp at h1; omega
    have HN := Lib.hid hnb
    clear hnb
    by_cases hy : 127 < y
    · have hyI : (127 : Int) < (y : Int) := by omega
      obtain ⟨z, hz⟩ : ∃ z : UInt8, z = (y % 128 + 128).toUInt8 := ⟨_, rfl⟩
      have hzv : z.toNat = y % 128 + 128 := by rw [hz]; simp; omega
      obtain ⟨q, hq⟩ : ∃ q : Nat, q = y / 128 := ⟨_, rfl⟩
      have hquo : IntKind.u64.wrap ((y : Int) / 128) = (q : Int) := by rw [wraps_u64 _ (by omega) (by have := HY.out.2.2.1; omega)]; omega
      have HQ := Lib.hid hq
      have hqy : q < y := by omega
      have hB := (hS.alloc0 (.cells #[.int .u8 (128 + (y : Int) % 128)] 5))
      clear hq
      have HZ := Lib.hid hz
      have HZV := Lib.hid hzv
      clear hz hzv hS
      go_wp2_with (at_builtin; (refine wpl_append_osl rfl (.tmp 6) (.tmp 11) 50 rfl 5 1 1 (.int .u8 0) Tryz.underlying50 infoU8w rfl rfl hB rfl [.int .u8 (128 + (y : Int) % 128)] rfl (by simp) (by intro b hb; cases hb; exact new_src _ [_] _) (by simp [Value.oneCell']) (by have := HN.out; omega) (by have := HN.out; unfold maxLen; omega) ?_))
      intro a2 c2 w2 h2
      clear hB
      go_wp2_with fail
      go_roundw
      case rel =>
        refine ⟨q, pre ++ [z], a2, n + 1, c2, _, rfl, rfl, Lib.hid ⟨rfl, ?_, by have := HY.out.2.2.1; omega, ?_⟩, ?_⟩
        · rw [List.length_append, HY.out.2.1]; rfl
        · rw [List.append_assoc, ← HY.out.2.2.2, Lib.uvarint_big (by omega : 128 ≤ y), ← HZ.out, ← HQ.out]; rfl
        · have e : (128 + (y : Int) % 128) = ((z.toNat : Nat) : Int) := by have := HZV.out; omega
          rw [e, HY.out.1] at h2
          rw [List.map_append, List.map_cons, List.map_nil, bv]; exact h2
      case measure => simp [intOf]; omega
    · have hyB : decide ((127 : Int) < (y : Int)) = false := by simp; omega
      have HY128 := Lib.hid hy
      obtain ⟨z, hz⟩ : ∃ z : UInt8, z = y.toUInt8 := ⟨_, rfl⟩
      have hzy : z.toNat = y := by
        rw [hz]; simp; omega
      have hor : ((y : Int) % 256) = (z.toNat : Int) := by omega
      have hB := (hS.alloc0 (.cells #[.int .u8 (z.toNat : Int)] 5))
      have HZ := Lib.hid hz
      clear hz hzy hy hS
      go_wp2_with (at_builtin; (refine wpl_append_osl rfl (.tmp 15) (.tmp 18) 50 rfl 5 1 1 (.int .u8 0) Tryz.underlying50 infoU8w rfl rfl hB rfl [.int .u8 (z.toNat : Int)] rfl (by simp) (by intro b hb; cases hb; exact new_src _ [_] _) (by simp [Value.oneCell']) (by have := HN.out; omega) (by have := HN.out; unfold maxLen; omega) ?_))
      intro a2 c2 w2 h2
      clear hB
      have e : Lib.uvarint x = pre ++ [z] := by rw [← HY.out.2.2.2, Lib.uvarint_small (by have := HY128.out; omega), ← HZ.out]
      have hl : n + 1 = (Lib.uvarint x).length := by rw [e, List.length_append, HY.out.2.1]; rfl
      have h3 : Sat W w2 (sep (osl 5 1 a2 (Lib.uvarint x).length c2 ((Lib.uvarint x).map bv)) A) := by
        rw [← hl, e, List.map_append, List.map_cons, List.map_nil, bv, ← HY.out.1]; exact h2
      have HL := Lib.hid hl
      clear e hl h2
      go_wp2_with fail
      go_ret
      exact ⟨a2, c2, by rw [← HL.out]; rfl, h3⟩
theorem rint_spec {W w : World} {A : Assn} (n : Int) (h1 : -9223372036854775808 ≤ n) (h2 : n ≤ 9223372036854775807) (h : Sat W w A) :
    Calls Tryz.prog 30 #[.int .i64 n] w fun e w' => ∃ a c, e = .returned (.slice a (PA.encI n).length c) ∧ Sat W w' (sep (osl 5 1 a (PA.encI n).length c ((PA.encI n).map bv)) A) := by
  have HZ := Lib.hid (Lib.zigzag_lt h1 h2)
  go_enter Tryz.func30, Tryz.ntmps30
  go_wp2_with fail
  refine (rzigzag_spec n _ h1 h2).mono ?_
  rintro e w2 ⟨rfl, rfl⟩
  go_wp2_with fail
  refine (ruint_spec (Lib.zigzag n) HZ.out h).mono ?_
  rintro e w3 ⟨a, c, rfl, hS⟩
  go_wp2_with fail
  go_ret
  exact ⟨a, c, rfl, hS⟩
theorem rraw_spec {W w : World} {A : Assn} {I : Mem} (v : Value) (b : List UInt8) (h : Sat W w (sep (kn I) A)) (hv : rBytes.rel I [v] b) (hb : b.length ≤ 1073741824) :
    Calls Tryz.prog 32 #[v] w fun e w' => ∃ a c, e = .returned (.slice a (encR b).length c) ∧ Sat W w' (sep (osl 5 1 a (encR b).length c ((encR b).map bv)) (sep (kn I) A)) := by
  obtain ⟨a, c, rfl, hsw, hc⟩ := bytes_rel.1 hv
  obtain ⟨n0, hn0⟩ : ∃ n0, n0 = b.length := ⟨_, rfl⟩
  rw [← hn0] at hb ⊢
  have hw1 : IntKind.u64.wrap (n0 : Int) = (n0 : Nat) := wraps_u64 _ (by omega) (by omega)
  have HC := Lib.hid hc
  have HN := Lib.hid hn0
  have HB := Lib.hid hb
  have HSW := Lib.hid hsw
  clear hc hn0 hb hsw hv
  go_enter Tryz.func32, Tryz.ntmps32
  go_wp2_with fail
  refine (ruint_spec n0 (by have := HB.out; omega) h).mono ?_
  rintro e w2 ⟨a1, c1, rfl, hS⟩
  have hsrc := src_ext HC.out hS.p1.ext
  obtain ⟨m, hm⟩ : ∃ m, m = (Lib.uvarint n0).length := ⟨_, rfl⟩
  obtain ⟨vs, hvs⟩ : ∃ vs, vs = (Lib.uvarint n0).map bv := ⟨_, rfl⟩
  have hmb : m ≤ 10 := by rw [hm]; exact Lib.uvarint_length64 (by have := HB.out; omega)
  rw [← hm, ← hvs] at hS
  rw [← hm]
  have HM := Lib.hid hm
  have HMB := Lib.hid hmb
  have HV := Lib.hid hvs
  have HSRC := Lib.hid hsrc
  clear hm hvs hmb hsrc h hw1
  go_wp2_with (at_builtin; (refine wpl_append_osl rfl (.tmp 6) (.tmp 7) 50 rfl 5 1 1 (.int .u8 0) Tryz.underlying50 infoU8w rfl rfl hS rfl (b.map bv) (by rw [List.length_map, HN.out, Nat.mul_one]) (fun e => by have := HSW.out.2.2 e; have := HSW.out.1; have := HN.out; omega) HSRC.out (bv_one b) (by have := HB.out; have := HMB.out; omega) (by have := HB.out; have := HMB.out; unfold maxLen; omega) ?_))
  intro a2 c2 w4 h4
  have hl : m + n0 = (encR b).length := by rw [encR, List.length_append, ← HN.out, ← HM.out]
  have h5 : Sat W w4 (sep (osl 5 1 a2 (encR b).length c2 ((encR b).map bv)) (sep (kn I) A)) := by
    rw [← hl, encR, List.map_append, ← HN.out, ← HV.out]; exact h4
  have HL := Lib.hid hl
  clear hl h4 hS
  go_wp2_with fail
  go_ret
  exact ⟨a2, c2, by rw [← HL.out]; rfl, h5⟩
end Go.Proofs.YtodipneapffjdaaGreatDoor
