/- Package wire: zigzag, Int, Text, Raw, Done; the reference's Uint, Int, Raw. -/
import Derived.Test.YtcmjbjlliehdiaaDoorGAuthmapBytes30
import Derived.Test.YtcmjbjlliehdiaaDoorGAuthmapBytes14
import Derived.Laws.IdiomStrings
namespace Go.Proofs.YtcmjbjlliehdiaaDoor
open Go.RowKit PA
theorem zigzag_spec (n : Int) (w : World) (h1 : -9223372036854775808 ≤ n) (h2 : n ≤ 9223372036854775807) : Calls Tryd.prog 93 #[.int .i64 n] w fun e w' => e = .returned (.int .u64 (Lib.zigzag n : Nat)) ∧ w = w' := by
  go_enter Tryd.func93, Tryd.ntmps93
  go_wp2
  go_ret
  exact ⟨ret_int (zz_val n h1 h2), rfl⟩
theorem rzigzag_spec (n : Int) (w : World) (h1 : -9223372036854775808 ≤ n) (h2 : n ≤ 9223372036854775807) : Calls Tryd.prog 96 #[.int .i64 n] w fun e w' => e = .returned (.int .u64 (Lib.zigzag n : Nat)) ∧ w = w' := by
  by_cases h0 : n < 0
  · go_enter Tryd.func96, Tryd.ntmps96
    go_wp2
    go_ret
    exact ⟨ret_int (by show 2 * -(n + 1) + 1 = _; unfold Lib.zigzag; rw [if_neg (by omega)]; omega), rfl⟩
  · go_enter Tryd.func96, Tryd.ntmps96
    go_wp2
    go_ret
    exact ⟨ret_int (by show 2 * n = _; unfold Lib.zigzag; rw [if_pos (by omega)]; omega), rfl⟩
theorem unzigzag_spec (z : Nat) (w : World) (h1 : z < 18446744073709551616) : Calls Tryd.prog 94 #[.int .u64 z] w fun e w' => e = .returned (.int .i64 (unz z)) ∧ w = w' := by
  go_enter Tryd.func94, Tryd.ntmps94
  go_wp2
  go_ret
  exact ⟨ret_int (unz_val z h1), rfl⟩
theorem wint_spec {W w : World} {A : Assn} (p : Nat) (bs : List UInt8) (n : Int) (h1 : -9223372036854775808 ≤ n) (h2 : n ≤ 9223372036854775807) (h : Sat W w (sep (isWr p bs) A)) (hb : bs.length ≤ 1073741824) :
    Calls Tryd.prog 63 #[.pointer (some ⟨p, 0, none⟩), .int .i64 n] w fun e w' => e = .returned (.tuple #[]) ∧ Sat W w' (sep (isWr p (bs ++ PA.encI n)) A) := by
  have hz := Lib.zigzag_lt h1 h2
  have HZ := Lib.hid hz
  have HB := Lib.hid hb
  clear hz hb
  go_enter Tryd.func63, Tryd.ntmps63
  go_wp2_with fail
  refine (zigzag_spec n _ h1 h2).mono ?_
  rintro e w2 ⟨rfl, rfl⟩
  go_wp2_with fail
  refine (wuint_spec p bs (Lib.zigzag n) HZ.out h HB.out).mono ?_
  rintro e w3 ⟨rfl, hS⟩
  go_wp2_with fail
  go_end0
  exact ⟨rfl, hS⟩
set_option maxHeartbeats 1000000 in
theorem wtext_spec {W w : World} {A : Assn} (p : Nat) (bs : List UInt8) (s : ByteArray) (h : Sat W w (sep (isWr p bs) A)) (hb : bs.length ≤ 1073741800) (hs : s.size ≤ 1073741824) :
    Calls Tryd.prog 92 #[.pointer (some ⟨p, 0, none⟩), .string s] w fun e w' => e = .returned (.tuple #[]) ∧ Sat W w' (sep (isWr p (bs ++ encR s.data.toList)) A) := by
  have hw1 : IntKind.u64.wrap (s.size : Int) = (s.size : Nat) := wraps_u64 _ (by omega) (by omega)
  have HB := Lib.hid hb
  have HS := Lib.hid hs
  clear hb hs
  go_enter Tryd.func92, Tryd.ntmps92
  go_wp2_with fail
  refine (wuint_spec p bs s.size (by have := HS.out; omega) h (by have := HB.out; omega)).mono ?_
  rintro e w3 ⟨rfl, hS⟩
  obtain ⟨a, n, c, hn, h3⟩ := isWr_open hS
  have hul := Lib.uvarint_length64 (x := s.size) (by have := HS.out; omega)
  have hnb : n ≤ 1073741900 := by rw [hn, List.length_append]; have := HB.out; omega
  obtain ⟨vs, hvs⟩ : ∃ vs, vs = (bs ++ Lib.uvarint s.size).map bv := ⟨_, rfl⟩
  rw [← hvs] at h3
  have c1 : w3.cell? ⟨p, 0, none⟩ = some (.slice a n c) := h3.cell 0
  have f1 : w3.frozen? ⟨p, 0, none⟩ = false := h3.unfrozen 0
  have hB := h3.p1
  have HN := Lib.hid hnb
  have HVS := Lib.hid hvs
  clear hn hul hnb hvs h h3 hS hw1
  go_wp2_with (at_builtin; (refine wpl_append_osl_str rfl (.tmp 13) (.tmp 14) 32 9 rfl 5 Tryd.underlying32 Tryd.underlying9 infoU8w rfl hB s rfl (by have := HN.out; have := HS.out; omega) ?_))
  intro a2 c2 w4 h4
  have h5 := h4.p1
  have c2' : w4.cell? ⟨p, 0, none⟩ = some (.slice a n c) := h5.cell 0
  have f2' : w4.frozen? ⟨p, 0, none⟩ = false := h5.unfrozen 0
  have h6 : Sat W (w4.setCell ⟨p, 0, none⟩ (.slice a2 (n + s.size) c2)) (sep (blk p (.cells #[.slice a2 (n + s.size) c2] 120 (0, 0))) (sep (osl 5 1 a2 (n + s.size) c2 (vs ++ s.data.toList.map bv)) A)) := h5.setCell 0 _
  clear hB h4 h5 c1 f1
  go_wp2_with fail
  go_end0
  refine ⟨rfl, isWr_mk (a := a2) (n := n + s.size) (c := c2) ?_⟩
  rw [encR, show s.data.toList.length = s.size by simp, ← List.append_assoc, List.map_append, ← HVS.out]
  exact h6
theorem wdone_spec {W w : World} {A : Assn} (p : Nat) (bs : List UInt8) (h : Sat W w (sep (isWr p bs) A)) (hb : bs.length ≤ 1073742900) :
    Calls Tryd.prog 65 #[.pointer (some ⟨p, 0, none⟩)] w fun e w' => ∃ a c, e = .returned (.slice a bs.length c) ∧ Sat W w' (sep (osl 5 1 a bs.length c (bs.map bv)) (sep (isWr p bs) A)) := by
  obtain ⟨a, n, c, hn, h1⟩ := isWr_open h
  have c1 : w.cell? ⟨p, 0, none⟩ = some (.slice a n c) := h1.cell 0
  have hsw := h1.p1.swf_of_osl
  have hsrc := h1.p1.osl_src
  rw [← hn] at hb ⊢
  have hcl := clone_any a n c (bs.map bv) h1 hsrc (by rw [List.length_map, hn]) hsw (bv_one bs) (by omega)
  have HCL := Lib.hid hcl
  clear h h1 hn hsw hsrc hcl hb
  go_enter Tryd.func65, Tryd.ntmps65
  go_wp2_with fail
  refine HCL.out.mono ?_
  rintro e w2 ⟨a2, c2, rfl, hS⟩
  clear c1
  go_wp2_with fail
  go_ret
  refine ⟨a2, c2, rfl, ?_⟩
  have h2 := isWr_mk (a := a) (n := n) (c := c) (p := p) (bs := bs) (A := sep (osl 5 1 a2 n c2 (bs.map bv)) A) (by simpa only [sep_comm, sep_lcomm, sep_assoc] using hS)
  exact h2.p1
set_option maxHeartbeats 1000000 in
theorem wraw_spec {W w : World} {A : Assn} {I : Mem} (p : Nat) (bs : List UInt8) (v : Value) (b : List UInt8) (h : Sat W w (sep (isWr p bs) (sep (kn I) A))) (hv : rBytes.rel I [v] b) (hb : bs.length ≤ 1073741800) (hs : b.length ≤ 1073741824) :
    Calls Tryd.prog 62 #[.pointer (some ⟨p, 0, none⟩), v] w fun e w' => e = .returned (.tuple #[]) ∧ Sat W w' (sep (isWr p (bs ++ encR b)) (sep (kn I) A)) := by
  obtain ⟨a, c, rfl, hsw, hc⟩ := bytes_rel.1 hv
  have hsrc := src_ext hc h.p1.ext
  obtain ⟨s, hsd⟩ : ∃ s : ByteArray, s = ⟨b.toArray⟩ := ⟨_, rfl⟩
  have hsl : s.data.toList = b := by rw [hsd]
  have hss : s.size = b.length := by rw [hsd]; simp [ByteArray.size]
  have hconv : (convert 32 9 (.slice a b.length c)).run Tryd.prog w = .ok (.string s) w := by
    cases a with
    | none =>
      have hc0 := hsw.2.2 rfl
      have hb0 : b = [] := List.eq_nil_of_length_eq_zero (by have := hsw.1; omega)
      subst hb0
      rw [hsd]
      simp [convert, run_underlying Tryd.underlying32, run_underlying Tryd.underlying9, run_underlying Tryd.underlying5, Conv.bytesToString]
      rfl
    | some ad =>
      have := run_convert_bytes_back (P := Tryd.prog) w 32 9 5 ad c b Tryd.underlying32 Tryd.underlying5 Tryd.underlying9 (fun j hj => hsrc ad rfl j _ (by rw [List.getElem?_map, List.getElem?_eq_getElem hj]; rfl))
      rw [hsd]; exact this
  have htx := wtext_spec p bs s h hb (by rw [hss]; exact hs)
  rw [hsl] at htx
  have HT := Lib.hid htx
  obtain ⟨n0, hn0⟩ : ∃ n0, n0 = b.length := ⟨_, rfl⟩
  rw [← hn0] at hconv ⊢
  clear htx hv hsw hc hsrc hsd hsl hss hn0 hb hs h
  go_enter Tryd.func62, Tryd.ntmps62
  go_wp2_with fail
  refine HT.out.mono ?_
  rintro e w3 ⟨rfl, hS⟩
  go_wp2_with fail
  go_end0
  exact ⟨rfl, hS⟩
end Go.Proofs.YtcmjbjlliehdiaaDoor
/- The reference's Uint, Int, Raw. -/
namespace Go.Proofs.YtcmjbjlliehdiaaDoor
open Go.RowKit PA
set_option maxHeartbeats 1000000 in
theorem ruint_spec {W w : World} {A : Assn} (x : Nat) (hx : x < 18446744073709551616) (h : Sat W w A) :
    Calls Tryd.prog 71 #[.int .u64 (x : Nat)] w fun e w' => ∃ a c, e = .returned (.slice a (Lib.uvarint x).length c) ∧ Sat W w' (sep (osl 5 1 a (Lib.uvarint x).length c ((Lib.uvarint x).map bv)) A) := by
  have HX := Lib.hid hx
  clear hx
  go_enter Tryd.func71, Tryd.ntmps71
  go_wp2_with fail
  go_loopw [0, 3] (fun nv ov wr => ∃ (y : Nat) (pre : List UInt8) (a : Option Addr) (n c : Nat) (vs : List Value), nv = .int .u64 (y : Nat) ∧ ov = .slice a n c ∧ Hid (vs = pre.map bv ∧ n = pre.length ∧ y < 18446744073709551616 ∧ pre ++ Lib.uvarint y = Lib.uvarint x) ∧ Sat W wr (sep (osl 5 1 a n c vs) A)) (fun nv _ _ => (intOf nv).toNat)
  case atStart => exact ⟨x, [], none, 0, 0, [], rfl, rfl, Lib.hid ⟨rfl, rfl, HX.out, rfl⟩, h.osl_nil _ _⟩
  case round =>
    clear h
    obtain ⟨y, pre, a, n, c, vs, rfl, rfl, HY, hS⟩ := hrel
    have hnb : n ≤ 10 := by
      have h1 := congrArg List.length HY.out.2.2.2
      have h2 := Lib.uvarint_length64 HX.out
      rw [HY.out.2.1]; simp at h1; omega
    have HN := Lib.hid hnb
    clear hnb
    by_cases hy : 127 < y
    · have hyI : (127 : Int) < (y : Int) := by omega
      obtain ⟨z, hz⟩ : ∃ z : UInt8, z = (y % 128 + 128).toUInt8 := ⟨_, rfl⟩
      have hzv : z.toNat = y % 128 + 128 := by rw [hz]; simp; omega
      obtain ⟨q, hq⟩ : ∃ q : Nat, q = y / 128 := ⟨_, rfl⟩
      have hquo : IntKind.u64.wrap ((y : Int) / 128) = (q : Int) := by rw [wraps_u64 _ (by omega) (by have := HY.out.2.2.1; omega)]; omega
      have HQ := Lib.hid hq
      have hqy : q < y := by omega
      have hB := (hS.alloc0 (.cells #[.int .u8 (128 + (y : Int) % 128)] 5))
      clear hq
      have HZ := Lib.hid hz
      have HZV := Lib.hid hzv
      clear hz hzv hS
      go_wp2_with (at_builtin; (refine wpl_append_osl rfl (.tmp 6) (.tmp 11) 32 rfl 5 1 1 (.int .u8 0) Tryd.underlying32 infoU8w rfl rfl hB rfl [.int .u8 (128 + (y : Int) % 128)] rfl (by simp) (by intro b hb; cases hb; exact new_src _ [_] _) (by simp [Value.oneCell']) (by have := HN.out; omega) (by have := HN.out; unfold maxLen; omega) ?_))
      intro a2 c2 w2 h2
      clear hB
      go_wp2_with fail
      go_roundw
      case rel =>
        refine ⟨q, pre ++ [z], a2, n + 1, c2, _, rfl, rfl, Lib.hid ⟨rfl, ?_, by have := HY.out.2.2.1; omega, ?_⟩, ?_⟩
        · rw [List.length_append, HY.out.2.1]; rfl
        · rw [List.append_assoc, ← HY.out.2.2.2, Lib.uvarint_big (by omega : 128 ≤ y), ← HZ.out, ← HQ.out]; rfl
        · have e : (128 + (y : Int) % 128) = ((z.toNat : Nat) : Int) := by have := HZV.out; omega
          rw [e, HY.out.1] at h2
          rw [List.map_append, List.map_cons, List.map_nil, bv]; exact h2
      case measure => simp [intOf]; omega
    · have hyB : decide ((127 : Int) < (y : Int)) = false := by simp; omega
      have HY128 := Lib.hid hy
      obtain ⟨z, hz⟩ : ∃ z : UInt8, z = y.toUInt8 := ⟨_, rfl⟩
      have hzy : z.toNat = y := by
        rw [hz]; simp; omega
      have hor : ((y : Int) % 256) = (z.toNat : Int) := by omega
      have hB := (hS.alloc0 (.cells #[.int .u8 (z.toNat : Int)] 5))
      have HZ := Lib.hid hz
      clear hz hzy hy hS
      go_wp2_with (at_builtin; (refine wpl_append_osl rfl (.tmp 15) (.tmp 18) 32 rfl 5 1 1 (.int .u8 0) Tryd.underlying32 infoU8w rfl rfl hB rfl [.int .u8 (z.toNat : Int)] rfl (by simp) (by intro b hb; cases hb; exact new_src _ [_] _) (by simp [Value.oneCell']) (by have := HN.out; omega) (by have := HN.out; unfold maxLen; omega) ?_))
      intro a2 c2 w2 h2
      clear hB
      have e : Lib.uvarint x = pre ++ [z] := by rw [← HY.out.2.2.2, Lib.uvarint_small (by have := HY128.out; omega), ← HZ.out]
      have hl : n + 1 = (Lib.uvarint x).length := by rw [e, List.length_append, HY.out.2.1]; rfl
      have h3 : Sat W w2 (sep (osl 5 1 a2 (Lib.uvarint x).length c2 ((Lib.uvarint x).map bv)) A) := by
        rw [← hl, e, List.map_append, List.map_cons, List.map_nil, bv, ← HY.out.1]; exact h2
      have HL := Lib.hid hl
      clear e hl h2
      go_wp2_with fail
      go_ret
      exact ⟨a2, c2, by rw [← HL.out]; rfl, h3⟩
theorem rint_spec {W w : World} {A : Assn} (n : Int) (h1 : -9223372036854775808 ≤ n) (h2 : n ≤ 9223372036854775807) (h : Sat W w A) :
    Calls Tryd.prog 70 #[.int .i64 n] w fun e w' => ∃ a c, e = .returned (.slice a (PA.encI n).length c) ∧ Sat W w' (sep (osl 5 1 a (PA.encI n).length c ((PA.encI n).map bv)) A) := by
  have HZ := Lib.hid (Lib.zigzag_lt h1 h2)
  go_enter Tryd.func70, Tryd.ntmps70
  go_wp2_with fail
  refine (rzigzag_spec n _ h1 h2).mono ?_
  rintro e w2 ⟨rfl, rfl⟩
  go_wp2_with fail
  refine (ruint_spec (Lib.zigzag n) HZ.out h).mono ?_
  rintro e w3 ⟨a, c, rfl, hS⟩
  go_wp2_with fail
  go_ret
  exact ⟨a, c, rfl, hS⟩
theorem rraw_spec {W w : World} {A : Assn} {I : Mem} (v : Value) (b : List UInt8) (h : Sat W w (sep (kn I) A)) (hv : rBytes.rel I [v] b) (hb : b.length ≤ 1073741824) :
    Calls Tryd.prog 69 #[v] w fun e w' => ∃ a c, e = .returned (.slice a (encR b).length c) ∧ Sat W w' (sep (osl 5 1 a (encR b).length c ((encR b).map bv)) (sep (kn I) A)) := by
  obtain ⟨a, c, rfl, hsw, hc⟩ := bytes_rel.1 hv
  obtain ⟨n0, hn0⟩ : ∃ n0, n0 = b.length := ⟨_, rfl⟩
  rw [← hn0] at hb ⊢
  have hw1 : IntKind.u64.wrap (n0 : Int) = (n0 : Nat) := wraps_u64 _ (by omega) (by omega)
  have HC := Lib.hid hc
  have HN := Lib.hid hn0
  have HB := Lib.hid hb
  have HSW := Lib.hid hsw
  clear hc hn0 hb hsw hv
  go_enter Tryd.func69, Tryd.ntmps69
  go_wp2_with fail
  refine (ruint_spec n0 (by have := HB.out; omega) h).mono ?_
  rintro e w2 ⟨a1, c1, rfl, hS⟩
  have hsrc := src_ext HC.out hS.p1.ext
  obtain ⟨m, hm⟩ : ∃ m, m = (Lib.uvarint n0).length := ⟨_, rfl⟩
  obtain ⟨vs, hvs⟩ : ∃ vs, vs = (Lib.uvarint n0).map bv := ⟨_, rfl⟩
  have hmb : m ≤ 10 := by rw [hm]; exact Lib.uvarint_length64 (by have := HB.out; omega)
  rw [← hm, ← hvs] at hS
  rw [← hm]
  have HM := Lib.hid hm
  have HMB := Lib.hid hmb
  have HV := Lib.hid hvs
  have HSRC := Lib.hid hsrc
  clear hm hvs hmb hsrc h hw1
  go_wp2_with (at_builtin; (refine wpl_append_osl rfl (.tmp 6) (.tmp 7) 32 rfl 5 1 1 (.int .u8 0) Tryd.underlying32 infoU8w rfl rfl hS rfl (b.map bv) (by rw [List.length_map, HN.out, Nat.mul_one]) (fun e => by have := HSW.out.2.2 e; have := HSW.out.1; have := HN.out; omega) HSRC.out (bv_one b) (by have := HB.out; have := HMB.out; omega) (by have := HB.out; have := HMB.out; unfold maxLen; omega) ?_))
  intro a2 c2 w4 h4
  have hl : m + n0 = (encR b).length := by rw [encR, List.length_append, ← HN.out, ← HM.out]
  have h5 : Sat W w4 (sep (osl 5 1 a2 (encR b).length c2 ((encR b).map bv)) (sep (kn I) A)) := by
    rw [← hl, encR, List.map_append, ← HN.out, ← HV.out]; exact h4
  have HL := Lib.hid hl
  clear hl h4 hS
  go_wp2_with fail
  go_ret
  exact ⟨a2, c2, by rw [← HL.out]; rfl, h5⟩
end Go.Proofs.YtcmjbjlliehdiaaDoor
