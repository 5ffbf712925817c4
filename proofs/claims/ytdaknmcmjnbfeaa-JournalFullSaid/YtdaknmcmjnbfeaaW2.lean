/- Package wire: zigzag, Int, Text, Raw, Done; the reference's Uint, Int, Raw. -/
import Derived.Test.YtdaknmcmjnbfeaaW1
import Derived.Test.YtdaknmcmjnbfeaaWp
import Derived.Test.YtdaknmcmjnbfeaaSl2
import Derived.Lib.SliceRun
import Derived.Laws.IdiomStrings
namespace Go.Proofs.Ytdaknmcmjnbfeaa
open Go.RowKit PA
theorem zigzag_spec (n : Int) (w : World) (h1 : -9223372036854775808 ≤ n) (h2 : n ≤ 9223372036854775807) : Calls Try.prog 44 #[.int .i64 n] w fun e w' => e = .returned (.int .u64 (Lib.zigzag n : Nat)) ∧ w = w' := by
  go_enter Try.func44, Try.ntmps44
  go_wp2
  go_ret
  exact ⟨ret_int (zz_val n h1 h2), rfl⟩
theorem rzigzag_spec (n : Int) (w : World) (h1 : -9223372036854775808 ≤ n) (h2 : n ≤ 9223372036854775807) : Calls Try.prog 75 #[.int .i64 n] w fun e w' => e = .returned (.int .u64 (Lib.zigzag n : Nat)) ∧ w = w' := by
  by_cases h0 : n < 0
  · go_enter Try.func75, Try.ntmps75
    go_wp2
    go_ret
    exact ⟨ret_int (by show 2 * -(n + 1) + 1 = _; unfold Lib.zigzag; rw [if_neg (by omega)]; omega), rfl⟩
  · go_enter Try.func75, Try.ntmps75
    go_wp2
    go_ret
    exact ⟨ret_int (by show 2 * n = _; unfold Lib.zigzag; rw [if_pos (by omega)]; omega), rfl⟩
theorem unzigzag_spec (z : Nat) (w : World) (h1 : z < 18446744073709551616) : Calls Try.prog 86 #[.int .u64 z] w fun e w' => e = .returned (.int .i64 (unz z)) ∧ w = w' := by
  go_enter Try.func86, Try.ntmps86
  go_wp2
  go_ret
  exact ⟨ret_int (unz_val z h1), rfl⟩
theorem rback_spec (z : Nat) (w : World) (h1 : z < 18446744073709551616) : Calls Try.prog 80 #[.int .u64 z] w fun e w' => e = .returned (.int .i64 (unz z)) ∧ w = w' := by
  by_cases h0 : z % 2 = 1
  · have e1 : (z : Int) % 2 = 1 := by omega
    go_enter Try.func80, Try.ntmps80
    go_wp2
    go_ret
    exact ⟨ret_int (by show -((z : Int) / 2) - 1 = _; unfold unz; rw [if_neg (by omega)]; omega), rfl⟩
  · have e1 : (z : Int) % 2 = 0 := by omega
    go_enter Try.func80, Try.ntmps80
    go_wp2
    go_ret
    exact ⟨ret_int (by show (z : Int) / 2 = _; unfold unz; rw [if_pos (by omega)]; omega), rfl⟩
theorem wint_spec {W w : World} {A : Assn} (p : Nat) (bs : List UInt8) (n : Int) (h1 : -9223372036854775808 ≤ n) (h2 : n ≤ 9223372036854775807) (h : Sat W w (sep (isWr p bs) A)) (hb : bs.length ≤ 1073741824) :
    Calls Try.prog 20 #[.pointer (some ⟨p, 0, none⟩), .int .i64 n] w fun e w' => e = .returned (.tuple #[]) ∧ Sat W w' (sep (isWr p (bs ++ encI n)) A) := by
  have hz := Lib.zigzag_lt h1 h2
  have HZ := Lib.hid hz
  have HB := Lib.hid hb
  clear hz hb
  go_enter Try.func20, Try.ntmps20
  go_wp2_with fail
  refine (zigzag_spec n _ h1 h2).mono ?_
  rintro e w2 ⟨rfl, rfl⟩
  go_wp2_with fail
  refine (wuint_spec p bs (Lib.zigzag n) HZ.out h HB.out).mono ?_
  rintro e w3 ⟨rfl, hS⟩
  go_wp2_with fail
  go_end0
  exact ⟨rfl, hS⟩
set_option maxHeartbeats 1000000 in
theorem wtext_spec {W w : World} {A : Assn} (p : Nat) (bs : List UInt8) (s : ByteArray) (h : Sat W w (sep (isWr p bs) A)) (hb : bs.length ≤ 1073741800) (hs : s.size ≤ 1073741824) :
    Calls Try.prog 45 #[.pointer (some ⟨p, 0, none⟩), .string s] w fun e w' => e = .returned (.tuple #[]) ∧ Sat W w' (sep (isWr p (bs ++ encR s.data.toList)) A) := by
  have hw1 : IntKind.u64.wrap (s.size : Int) = (s.size : Nat) := wraps_u64 _ (by omega) (by omega)
  have HB := Lib.hid hb
  have HS := Lib.hid hs
  clear hb hs
  go_enter Try.func45, Try.ntmps45
  go_wp2_with fail
  refine (wuint_spec p bs s.size (by have := HS.out; omega) h (by have := HB.out; omega)).mono ?_
  rintro e w3 ⟨rfl, hS⟩
  obtain ⟨a, n, c, hn, h3⟩ := isWr_open hS
  have hul := Lib.uvarint_length64 (x := s.size) (by have := HS.out; omega)
  have hnb : n ≤ 1073741900 := by rw [hn, List.length_append]; have := HB.out; omega
  obtain ⟨vs, hvs⟩ : ∃ vs, vs = (bs ++ Lib.uvarint s.size).map bv := ⟨_, rfl⟩
  rw [← hvs] at h3
  have c1 : w3.cell? ⟨p, 0, none⟩ = some (.slice a n c) := h3.cell 0
  have f1 : w3.frozen? ⟨p, 0, none⟩ = false := h3.unfrozen 0
  have hB := h3.p1
  have HN := Lib.hid hnb
  have HVS := Lib.hid hvs
  clear hn hul hnb hvs h h3 hS hw1
  go_wp2_with (at_builtin; (refine wpl_append_osl_str rfl (.tmp 13) (.tmp 14) 23 9 rfl 5 Try.underlying23 Try.underlying9 infoU8w rfl hB s rfl (by have := HN.out; have := HS.out; omega) ?_))
  intro a2 c2 w4 h4
  have h5 := h4.p1
  have c2' : w4.cell? ⟨p, 0, none⟩ = some (.slice a n c) := h5.cell 0
  have f2' : w4.frozen? ⟨p, 0, none⟩ = false := h5.unfrozen 0
  have h6 : Sat W (w4.setCell ⟨p, 0, none⟩ (.slice a2 (n + s.size) c2)) (sep (blk p (.cells #[.slice a2 (n + s.size) c2] 37 (0, 0))) (sep (osl 5 1 a2 (n + s.size) c2 (vs ++ s.data.toList.map bv)) A)) := h5.setCell 0 _
  clear hB h4 h5 c1 f1
  go_wp2_with fail
  go_end0
  refine ⟨rfl, isWr_mk (a := a2) (n := n + s.size) (c := c2) ?_⟩
  rw [encR, show s.data.toList.length = s.size by simp, ← List.append_assoc, List.map_append, ← HVS.out]
  exact h6
theorem clone_any {W w : World} {A : Assn} (a : Option Addr) (n c : Nat) (xs : List Value) (h : Sat W w A) (hsrc : ∀ b, a = some b → ∀ j u, xs[j]? = some u → w.cell? (b.add j) = some u) (hl : xs.length = n) (hw : Swf a n c) (h1 : ∀ u ∈ xs, u.oneCell' = true) (hn : n ≤ 140737488355328) :
    Calls Try.prog 46 #[.slice a n c] w fun e w' => ∃ a' c', e = .returned (.slice a' n c') ∧ Sat W w' (sep (osl 5 1 a' n c' xs) A) := by
  obtain ⟨hw1, hw2, hw3⟩ := hw
  have hq := fun w a n c => Lib.run_eql_slice_nil (P := Try.prog) w 23 5 a n c 0 0 Try.underlying23
  cases a with
  | none =>
    obtain rfl := hw3 rfl
    obtain rfl : n = 0 := by omega
    obtain rfl : xs = [] := List.eq_nil_of_length_eq_zero hl
    clear hsrc
    go_enter Try.func46, Try.ntmps46
    go_wp2
    go_ret
    exact ⟨_, _, rfl, h.osl_nil _ _⟩
  | some b =>
    have hS := (h.alloc (.cells #[] 5)).osl_mk 0 0 1 [] rfl (by omega) (by unfold maxLen; omega) rfl rfl
    have hc2 := Lib.hid (old_src (hsrc b rfl) (.cells #[] 5))
    have HN := Lib.hid hn
    have HW2 := Lib.hid hw2
    have HW1 := Lib.hid hw1
    clear hsrc hn hw1 hw2 hw3
    go_enter Try.func46, Try.ntmps46
    go_wp2_with (at_builtin; refine wpl_append_osl rfl _ _ 23 rfl 5 1 1 (.int .u8 0) Try.underlying23 infoU8w rfl rfl hS rfl xs (by omega) (by simp) (by intro b' hb; cases hb; exact hc2.out) h1 (by have := HN.out; omega) (by have := HN.out; unfold maxLen; omega) ?_)
    intro a' c' w' hS'
    go_wp2
    go_ret
    refine ⟨a', c', ?_, ?_⟩
    · simp
    · simpa using hS'
/-- What is owned, as an append's source. -/
theorem _root_.PA.Sat.osl_src {W w : World} {A : Assn} {E : Nat} {a : Option Addr} {n c : Nat} {xs : List Value} (h : Sat W w (sep (osl E 1 a n c xs) A)) : ∀ b, a = some b → ∀ j u, xs[j]? = some u → w.cell? (b.add j) = some u := by
  intro b hb j u hu
  obtain ⟨g, e, hc⟩ := h.osl_at (fun e => by rw [e] at hu; simp at hu)
  rw [hb] at e; cases e
  have := hc j u hu
  unfold Addr.add
  split
  · rename_i e; subst e; exact this
  · simpa using this
theorem wdone_spec {W w : World} {A : Assn} (p : Nat) (bs : List UInt8) (h : Sat W w (sep (isWr p bs) A)) (hb : bs.length ≤ 1073742900) :
    Calls Try.prog 22 #[.pointer (some ⟨p, 0, none⟩)] w fun e w' => ∃ a c, e = .returned (.slice a bs.length c) ∧ Sat W w' (sep (osl 5 1 a bs.length c (bs.map bv)) (sep (isWr p bs) A)) := by
  obtain ⟨a, n, c, hn, h1⟩ := isWr_open h
  have c1 : w.cell? ⟨p, 0, none⟩ = some (.slice a n c) := h1.cell 0
  have hsw := h1.p1.swf_of_osl
  have hsrc := h1.p1.osl_src
  rw [← hn] at hb ⊢
  have hcl := clone_any a n c (bs.map bv) h1 hsrc (by rw [List.length_map, hn]) hsw (bv_one bs) (by omega)
  have HCL := Lib.hid hcl
  clear h h1 hn hsw hsrc hcl hb
  go_enter Try.func22, Try.ntmps22
  go_wp2_with fail
  refine HCL.out.mono ?_
  rintro e w2 ⟨a2, c2, rfl, hS⟩
  clear c1
  go_wp2_with fail
  go_ret
  refine ⟨a2, c2, rfl, ?_⟩
  have h2 := isWr_mk (a := a) (n := n) (c := c) (p := p) (bs := bs) (A := sep (osl 5 1 a2 n c2 (bs.map bv)) A) (by simpa only [sep_comm, sep_lcomm, sep_assoc] using hS)
  exact h2.p1
set_option maxHeartbeats 1000000 in
theorem wraw_spec {W w : World} {A : Assn} {I : Mem} (p : Nat) (bs : List UInt8) (v : Value) (b : List UInt8) (h : Sat W w (sep (isWr p bs) (sep (kn I) A))) (hv : rBytes.rel I [v] b) (hb : bs.length ≤ 1073741800) (hs : b.length ≤ 1073741824) :
    Calls Try.prog 21 #[.pointer (some ⟨p, 0, none⟩), v] w fun e w' => e = .returned (.tuple #[]) ∧ Sat W w' (sep (isWr p (bs ++ encR b)) (sep (kn I) A)) := by
  obtain ⟨a, c, rfl, hsw, hc⟩ := bytes_rel.1 hv
  have hsrc := src_ext hc h.p1.ext
  obtain ⟨s, hsd⟩ : ∃ s : ByteArray, s = ⟨b.toArray⟩ := ⟨_, rfl⟩
  have hsl : s.data.toList = b := by rw [hsd]
  have hss : s.size = b.length := by rw [hsd]; simp [ByteArray.size]
  have hconv : (convert 23 9 (.slice a b.length c)).run Try.prog w = .ok (.string s) w := by
    cases a with
    | none =>
      have hc0 := hsw.2.2 rfl
      have hb0 : b = [] := List.eq_nil_of_length_eq_zero (by have := hsw.1; omega)
      subst hb0
      rw [hsd]
      simp [convert, run_underlying Try.underlying23, run_underlying Try.underlying9, run_underlying Try.underlying5, Conv.bytesToString]
      rfl
    | some ad =>
      have := run_convert_bytes_back (P := Try.prog) w 23 9 5 ad c b Try.underlying23 Try.underlying5 Try.underlying9 (fun j hj => hsrc ad rfl j _ (by rw [List.getElem?_map, List.getElem?_eq_getElem hj]; rfl))
      rw [hsd]; exact this
  have htx := wtext_spec p bs s h hb (by rw [hss]; exact hs)
  rw [hsl] at htx
  have HT := Lib.hid htx
  obtain ⟨n0, hn0⟩ : ∃ n0, n0 = b.length := ⟨_, rfl⟩
  rw [← hn0] at hconv ⊢
  clear htx hv hsw hc hsrc hsd hsl hss hn0 hb hs h
  go_enter Try.func21, Try.ntmps21
  go_wp2_with fail
  refine HT.out.mono ?_
  rintro e w3 ⟨rfl, hS⟩
  go_wp2_with fail
  go_end0
  exact ⟨rfl, hS⟩
end Go.Proofs.Ytdaknmcmjnbfeaa
