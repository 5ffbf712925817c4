/- The reference's Uint, Int, Raw. -/
import Derived.Test.YtdaknmcmjnbfeaaW2
namespace Go.Proofs.Ytdaknmcmjnbfeaa
open Go.RowKit PA
set_option maxHeartbeats 1000000 in
theorem ruint_spec {W w : World} {A : Assn} (x : Nat) (hx : x < 18446744073709551616) (h : Sat W w A) :
    Calls Try.prog 40 #[.int .u64 (x : Nat)] w fun e w' => ∃ a c, e = .returned (.slice a (Lib.uvarint x).length c) ∧ Sat W w' (sep (osl 5 1 a (Lib.uvarint x).length c ((Lib.uvarint x).map bv)) A) := by
  have HX := Lib.hid hx
  clear hx
  go_enter Try.func40, Try.ntmps40
  go_wp2_with fail
  go_loopw [0, 3] (fun nv ov wr => ∃ (y : Nat) (pre : List UInt8) (a : Option Addr) (n c : Nat) (vs : List Value), nv = .int .u64 (y : Nat) ∧ ov = .slice a n c ∧ Hid (vs = pre.map bv ∧ n = pre.length ∧ y < 18446744073709551616 ∧ pre ++ Lib.uvarint y = Lib.uvarint x) ∧ Sat W wr (sep (osl 5 1 a n c vs) A)) (fun nv _ _ => (intOf nv).toNat)
  case atStart => exact ⟨x, [], none, 0, 0, [], rfl, rfl, Lib.hid ⟨rfl, rfl, HX.out, rfl⟩, h.osl_nil _ _⟩
  case round =>
    clear h
    obtain ⟨y, pre, a, n, c, vs, rfl, rfl, HY, hS⟩ := hrel
    have hnb : n ≤ 10 := by
      have h1 := congrArg List.length HY.out.2.2.2
      have h2 := Lib.uvarint_length64 HX.out
      rw [HY.out.2.1]; simp at h1; omega
    have HN := Lib.hid hnb
    clear hnb
    by_cases hy : 127 < y
    · have hyI : (127 : Int) < (y : Int) := by omega
      obtain ⟨z, hz⟩ : ∃ z : UInt8, z = (y % 128 + 128).toUInt8 := ⟨_, rfl⟩
      have hzv : z.toNat = y % 128 + 128 := by rw [hz]; simp; omega
      obtain ⟨q, hq⟩ : ∃ q : Nat, q = y / 128 := ⟨_, rfl⟩
      have hquo : IntKind.u64.wrap ((y : Int) / 128) = (q : Int) := by rw [wraps_u64 _ (by omega) (by have := HY.out.2.2.1; omega)]; omega
      have HQ := Lib.hid hq
      have hqy : q < y := by omega
      have hB := (hS.alloc0 (.cells #[.int .u8 (128 + (y : Int) % 128)] 5))
      clear hq
      have HZ := Lib.hid hz
      have HZV := Lib.hid hzv
      clear hz hzv hS
      go_wp2_with (at_builtin; (refine wpl_append_osl rfl (.tmp 6) (.tmp 11) 23 rfl 5 1 1 (.int .u8 0) Try.underlying23 infoU8w rfl rfl hB rfl [.int .u8 (128 + (y : Int) % 128)] rfl (by simp) (by intro b hb; cases hb; exact new_src _ [_] _) (by simp [Value.oneCell']) (by have := HN.out; omega) (by have := HN.out; unfold maxLen; omega) ?_))
      intro a2 c2 w2 h2
      clear hB
      go_wp2_with fail
      go_roundw
      case rel =>
        refine ⟨q, pre ++ [z], a2, n + 1, c2, _, rfl, rfl, Lib.hid ⟨rfl, ?_, by have := HY.out.2.2.1; omega, ?_⟩, ?_⟩
        · rw [List.length_append, HY.out.2.1]; rfl
        · rw [List.append_assoc, ← HY.out.2.2.2, Lib.uvarint_big (by omega : 128 ≤ y), ← HZ.out, ← HQ.out]; rfl
        · have e : (128 + (y : Int) % 128) = ((z.toNat : Nat) : Int) := by have := HZV.out; omega
          rw [e, HY.out.1] at h2
          rw [List.map_append, List.map_cons, List.map_nil, bv]; exact h2
      case measure => simp [intOf]; omega
    · have hyB : decide ((127 : Int) < (y : Int)) = false := by simp; omega
      have HY128 := Lib.hid hy
      obtain ⟨z, hz⟩ : ∃ z : UInt8, z = y.toUInt8 := ⟨_, rfl⟩
      have hzy : z.toNat = y := by
        rw [hz]; simp; omega
      have hor : ((y : Int) % 256) = (z.toNat : Int) := by omega
      have hB := (hS.alloc0 (.cells #[.int .u8 (z.toNat : Int)] 5))
      have HZ := Lib.hid hz
      clear hz hzy hy hS
      go_wp2_with (at_builtin; (refine wpl_append_osl rfl (.tmp 15) (.tmp 18) 23 rfl 5 1 1 (.int .u8 0) Try.underlying23 infoU8w rfl rfl hB rfl [.int .u8 (z.toNat : Int)] rfl (by simp) (by intro b hb; cases hb; exact new_src _ [_] _) (by simp [Value.oneCell']) (by have := HN.out; omega) (by have := HN.out; unfold maxLen; omega) ?_))
      intro a2 c2 w2 h2
      clear hB
      have e : Lib.uvarint x = pre ++ [z] := by rw [← HY.out.2.2.2, Lib.uvarint_small (by have := HY128.out; omega), ← HZ.out]
      have hl : n + 1 = (Lib.uvarint x).length := by rw [e, List.length_append, HY.out.2.1]; rfl
      have h3 : Sat W w2 (sep (osl 5 1 a2 (Lib.uvarint x).length c2 ((Lib.uvarint x).map bv)) A) := by
        rw [← hl, e, List.map_append, List.map_cons, List.map_nil, bv, ← HY.out.1]; exact h2
      have HL := Lib.hid hl
      clear e hl h2
      go_wp2_with fail
      go_ret
      exact ⟨a2, c2, by rw [← HL.out]; rfl, h3⟩
theorem rint_spec {W w : World} {A : Assn} (n : Int) (h1 : -9223372036854775808 ≤ n) (h2 : n ≤ 9223372036854775807) (h : Sat W w A) :
    Calls Try.prog 62 #[.int .i64 n] w fun e w' => ∃ a c, e = .returned (.slice a (encI n).length c) ∧ Sat W w' (sep (osl 5 1 a (encI n).length c ((encI n).map bv)) A) := by
  have HZ := Lib.hid (Lib.zigzag_lt h1 h2)
  go_enter Try.func62, Try.ntmps62
  go_wp2_with fail
  refine (rzigzag_spec n _ h1 h2).mono ?_
  rintro e w2 ⟨rfl, rfl⟩
  go_wp2_with fail
  refine (ruint_spec (Lib.zigzag n) HZ.out h).mono ?_
  rintro e w3 ⟨a, c, rfl, hS⟩
  go_wp2_with fail
  go_ret
  exact ⟨a, c, rfl, hS⟩
theorem rraw_spec {W w : World} {A : Assn} {I : Mem} (v : Value) (b : List UInt8) (h : Sat W w (sep (kn I) A)) (hv : rBytes.rel I [v] b) (hb : b.length ≤ 1073741824) :
    Calls Try.prog 39 #[v] w fun e w' => ∃ a c, e = .returned (.slice a (encR b).length c) ∧ Sat W w' (sep (osl 5 1 a (encR b).length c ((encR b).map bv)) (sep (kn I) A)) := by
  obtain ⟨a, c, rfl, hsw, hc⟩ := bytes_rel.1 hv
  obtain ⟨n0, hn0⟩ : ∃ n0, n0 = b.length := ⟨_, rfl⟩
  rw [← hn0] at hb ⊢
  have hw1 : IntKind.u64.wrap (n0 : Int) = (n0 : Nat) := wraps_u64 _ (by omega) (by omega)
  have HC := Lib.hid hc
  have HN := Lib.hid hn0
  have HB := Lib.hid hb
  have HSW := Lib.hid hsw
  clear hc hn0 hb hsw hv
  go_enter Try.func39, Try.ntmps39
  go_wp2_with fail
  refine (ruint_spec n0 (by have := HB.out; omega) h).mono ?_
  rintro e w2 ⟨a1, c1, rfl, hS⟩
  have hsrc := src_ext HC.out hS.p1.ext
  obtain ⟨m, hm⟩ : ∃ m, m = (Lib.uvarint n0).length := ⟨_, rfl⟩
  obtain ⟨vs, hvs⟩ : ∃ vs, vs = (Lib.uvarint n0).map bv := ⟨_, rfl⟩
  have hmb : m ≤ 10 := by rw [hm]; exact Lib.uvarint_length64 (by have := HB.out; omega)
  rw [← hm, ← hvs] at hS
  rw [← hm]
  have HM := Lib.hid hm
  have HMB := Lib.hid hmb
  have HV := Lib.hid hvs
  have HSRC := Lib.hid hsrc
  clear hm hvs hmb hsrc h hw1
  go_wp2_with (at_builtin; (refine wpl_append_osl rfl (.tmp 6) (.tmp 7) 23 rfl 5 1 1 (.int .u8 0) Try.underlying23 infoU8w rfl rfl hS rfl (b.map bv) (by rw [List.length_map, HN.out, Nat.mul_one]) (fun e => by have := HSW.out.2.2 e; have := HSW.out.1; have := HN.out; omega) HSRC.out (bv_one b) (by have := HB.out; have := HMB.out; omega) (by have := HB.out; have := HMB.out; unfold maxLen; omega) ?_))
  intro a2 c2 w4 h4
  have hl : m + n0 = (encR b).length := by rw [encR, List.length_append, ← HN.out, ← HM.out]
  have h5 : Sat W w4 (sep (osl 5 1 a2 (encR b).length c2 ((encR b).map bv)) (sep (kn I) A)) := by
    rw [← hl, encR, List.map_append, ← HN.out, ← HV.out]; exact h4
  have HL := Lib.hid hl
  clear hl h4 hS
  go_wp2_with fail
  go_ret
  exact ⟨a2, c2, by rw [← HL.out]; rfl, h5⟩
end Go.Proofs.Ytdaknmcmjnbfeaa
