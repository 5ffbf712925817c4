/- Package wire: zigzag, Int, Done (cut out of W2). -/
import Derived.Test.YtcnonbhhlbplpaaCl
namespace Go.Proofs.Ytcnonbhhlbplpaa
open Go.RowKit PA
theorem zigzag_spec (n : Int) (w : World) (h1 : -9223372036854775808 ≤ n) (h2 : n ≤ 9223372036854775807) : Calls Try.prog 58 #[.int .i64 n] w fun e w' => e = .returned (.int .u64 (Lib.zigzag n : Nat)) ∧ w = w' := by
  go_enter Try.func58, Try.ntmps58
  go_wp2
  go_ret
  exact ⟨ret_int (zz_val n h1 h2), rfl⟩
theorem unzigzag_spec (z : Nat) (w : World) (h1 : z < 18446744073709551616) : Calls Try.prog 61 #[.int .u64 z] w fun e w' => e = .returned (.int .i64 (unz z)) ∧ w = w' := by
  go_enter Try.func61, Try.ntmps61
  go_wp2
  go_ret
  exact ⟨ret_int (unz_val z h1), rfl⟩
theorem wint_spec {W w : World} {A : Assn} (p : Nat) (bs : List UInt8) (n : Int) (h1 : -9223372036854775808 ≤ n) (h2 : n ≤ 9223372036854775807) (h : Sat W w (sep (isWr p bs) A)) (hb : bs.length ≤ 1073741824) :
    Calls Try.prog 46 #[.pointer (some ⟨p, 0, none⟩), .int .i64 n] w fun e w' => e = .returned (.tuple #[]) ∧ Sat W w' (sep (isWr p (bs ++ encI n)) A) := by
  have hz := Lib.zigzag_lt h1 h2
  have HZ := Lib.hid hz
  have HB := Lib.hid hb
  clear hz hb
  go_enter Try.func46, Try.ntmps46
  go_wp2_with fail
  refine (zigzag_spec n _ h1 h2).mono ?_
  rintro e w2 ⟨rfl, rfl⟩
  go_wp2_with fail
  refine (wuint_spec p bs (Lib.zigzag n) HZ.out h HB.out).mono ?_
  rintro e w3 ⟨rfl, hS⟩
  go_wp2_with fail
  go_end0
  exact ⟨rfl, hS⟩
theorem wdone_spec {W w : World} {A : Assn} (p : Nat) (bs : List UInt8) (h : Sat W w (sep (isWr p bs) A)) (hb : bs.length ≤ 1073742900) :
    Calls Try.prog 30 #[.pointer (some ⟨p, 0, none⟩)] w fun e w' => ∃ a c, e = .returned (.slice a bs.length c) ∧ Sat W w' (sep (osl 5 1 a bs.length c (bs.map bv)) (sep (isWr p bs) A)) := by
  obtain ⟨a, n, c, hn, h1⟩ := isWr_open h
  have c1 : w.cell? ⟨p, 0, none⟩ = some (.slice a n c) := h1.cell 0
  have hsw := h1.p1.swf_of_osl
  have hsrc := h1.p1.osl_src
  rw [← hn] at hb ⊢
  have hcl := clone_any a n c (bs.map bv) h1 hsrc (by rw [List.length_map, hn]) hsw (bv_one bs) (by omega)
  have HCL := Lib.hid hcl
  clear h h1 hn hsw hsrc hcl hb
  go_enter Try.func30, Try.ntmps30
  go_wp2_with fail
  refine HCL.out.mono ?_
  rintro e w2 ⟨a2, c2, rfl, hS⟩
  clear c1
  go_wp2_with fail
  go_ret
  refine ⟨a2, c2, rfl, ?_⟩
  have h2 := isWr_mk (a := a) (n := n) (c := c) (p := p) (bs := bs) (A := sep (osl 5 1 a2 n c2 (bs.map bv)) A) (by simpa only [sep_comm, sep_lcomm, sep_assoc] using hS)
  exact h2.p1
end Go.Proofs.Ytcnonbhhlbplpaa
