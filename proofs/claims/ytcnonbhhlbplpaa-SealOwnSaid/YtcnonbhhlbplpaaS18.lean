/- Package wire: Ints of a reader, on what Ints of a writer wrote. -/
import Derived.Test.YtcnonbhhlbplpaaS17
namespace Go.Proofs.Ytcnonbhhlbplpaa
open Go.RowKit PA
theorem stU_of (x : Nat) (r : List UInt8) (hx : x < 18446744073709551616) : stU (.ok (Lib.uvarint x ++ r)) = (x, .ok r) := by
  simp only [stU, uintP_of x r hx]
theorem stI_of (n : Int) (r : List UInt8) (h1 : -9223372036854775808 ≤ n) (h2 : n ≤ 9223372036854775807) : stI (.ok (PA.encI n ++ r)) = (n, .ok r) := by
  unfold stI
  rw [PA.encI, stU_of _ r (Lib.zigzag_lt h1 h2)]
  have : unz (Lib.zigzag n) = n := by unfold unz Lib.zigzag; split <;> split <;> omega
  rw [this]
theorem infoI2 : (Try.prog.info? 3).map (fun i => (i.zero, i.size, i.bytes)) = some (some (.int .i64 0), 1, 8) := by kernel_rfl
set_option maxRecDepth 100000 in
set_option maxHeartbeats 4000000 in
theorem listI_ok {W w : World} {A : Assn} (p : Nat) (ns : List Int) (h : Sat W w (sep (isRd 85 p (.ok (intsE ns))) A)) (hn : ns.length ≤ 100) (h64 : ∀ n ∈ ns, -9223372036854775808 ≤ n ∧ n ≤ 9223372036854775807) :
    Calls Try.prog 47 #[.pointer (some ⟨p, 0, none⟩), .func (.func 48) #[.pointer (some ⟨p, 0, none⟩)] #[]] w fun r w' => ∃ a c, r = .returned (.slice a ns.length c) ∧ Sat W w' (sep (osl 3 1 a ns.length c (ns.map iv)) (sep (isRd 85 p (.ok [])) A)) := by
  have hfl := flat_len ns h64
  have hf1 := flat_len1 ns
  have hul := Lib.uvarint_length64 (x := ns.length) (by omega)
  have hu := rduint_spec p (.ok (intsE ns)) h (by show (intsE ns).length ≤ 1073742900; rw [intsE, List.length_append]; omega)
  rw [show stU (.ok (intsE ns)) = (ns.length, .ok (ns.flatMap PA.encI)) from stU_of ns.length _ (by omega)] at hu
  obtain ⟨l, hl⟩ : ∃ l, l = ns.flatMap PA.encI := ⟨_, rfl⟩
  obtain ⟨n, hnn⟩ : ∃ n, n = ns.length := ⟨_, rfl⟩
  obtain ⟨m, hm⟩ : ∃ m, m = l.length := ⟨_, rfl⟩
  rw [← hl, ← hnn] at hu
  rw [← hl, ← hm, ← hnn] at hfl
  rw [← hl, ← hm, ← hnn] at hf1
  rw [← hnn] at hn ⊢
  have hwl : IntKind.u64.wrap (m : Int) = (m : Int) := wraps_u64 _ (by omega) (by omega)
  have hnI : ¬ m < n := by omega
  have hnb : (n : Int) ≤ 100 := by omega
  have HU := Lib.hid hu
  have HM := Lib.hid (And.intro hl (And.intro hnn hm))
  have H64 := Lib.hid h64
  have HN := Lib.hid hn
  have HFL := Lib.hid hfl
  clear h hn h64 hul hu hl hnn hm hfl hf1
  go_enter Try.func47, Try.ntmps47
  go_wp2_with fail
  refine HU.out.mono ?_
  rintro r w2 ⟨rfl, hS⟩
  clear HU
  have c1 := isRd_cell_ok hS
  obtain ⟨a, k, c, c0, hk⟩ := isRd_slice hS
  have hk2 := (hk l rfl).trans HM.out.2.2.symm
  subst hk2
  clear hk
  go_wp2_with fail
  clear c0 c1 hwl hnI
  go_loopw [6, 7] (fun ov iv' wr => ∃ (i : Nat) (a : Option Addr) (c : Nat) (vs : List Value), iv' = .int .u64 (i : Nat) ∧ i ≤ n ∧ ov = .slice a i c ∧ Hid (vs = (ns.take i).map iv) ∧ Sat W wr (sep (osl 3 1 a i c vs) (sep (isRd 85 p (.ok ((ns.drop i).flatMap PA.encI))) A))) (fun _ iv' _ => n - (intOf iv').toNat)
  case atStart => exact ⟨0, none, 0, [], rfl, Nat.zero_le _, rfl, Lib.hid rfl, by rw [List.drop_zero, ← HM.out.1]; exact hS.osl_nil _ _⟩
  case round =>
    clear hS
    obtain ⟨i, a, c, vs, rfl, hi, rfl, HV, hS⟩ := hrel
    by_cases hin : i < n
    · have hil : i < ns.length := by rw [← HM.out.2.1]; exact hin
      obtain ⟨x, hx⟩ : ∃ x, x = ns[i] := ⟨_, rfl⟩
      have hd : (ns.drop i).flatMap PA.encI = PA.encI x ++ (ns.drop (i + 1)).flatMap PA.encI := by rw [List.drop_eq_getElem_cons hil, List.flatMap_cons, hx]
      have hx64 := H64.out x (by rw [hx]; exact List.getElem_mem _)
      have c1 := isRd_cell_ok hS.p1
      have hS2 := hS.p1
      have hsm : RSt.small (.ok (PA.encI x ++ (ns.drop (i + 1)).flatMap PA.encI)) := by
        show (PA.encI x ++ (ns.drop (i + 1)).flatMap PA.encI).length ≤ 1073742900
        have h1 := encI_len x hx64.1 hx64.2
        have h2 := flat_len (ns.drop (i + 1)) fun n hn => H64.out n (List.mem_of_mem_drop hn)
        rw [List.length_drop] at h2
        rw [List.length_append]; have := HN.out; have := HM.out.2.1; omega
      rw [hd] at hS2
      have hri := rdint_spec p _ hS2 hsm
      rw [stI_of x _ hx64.1 hx64.2] at hri
      have HRI := Lib.hid hri
      have hinI : (i : Int) < n := by omega
      have HX := Lib.hid hx
      have HI := Lib.hid hi
      have HIL := Lib.hid hil
      clear hx hd hS hS2 hi hri hsm hx64
      go_wp2_with fail
      refine HRI.out.mono ?_
      rintro r w3 ⟨rfl, hS3⟩
      have hB := (hS3.p1.alloc0 (.cells #[.int .i64 x] 3))
      clear hS3 c1 HRI
      go_wp2_with (at_builtin; (refine wpl_append_osl rfl (.tmp 32) (.tmp 35) 32 rfl 3 1 8 (.int .i64 0) Try.underlying32 infoI2 rfl rfl hB rfl [.int .i64 x] rfl (by simp) (by intro b hb; cases hb; exact new_src _ [_] _) (by simp [Value.oneCell']) (by omega) (by unfold maxLen; omega) ?_))
      intro a2 c2 w4 h4
      clear hB
      go_wp2_with fail
      go_roundw
      case rel =>
        refine ⟨i + 1, a2, c2, _, by go_num, by omega, rfl, Lib.hid ?_, h4⟩
        rw [HV.out, List.take_succ_eq_append_getElem HIL.out, List.map_append, List.map_cons, List.map_nil, iv, ← HX.out]
      case measure => simp [intOf]; omega
    · obtain rfl : i = n := by omega
      have hinI : ¬ (i : Int) < (i : Int) := by omega
      have c1 := isRd_cell_ok hS.p1
      go_wp2_with fail
      go_ret
      rw [HV.out, List.take_of_length_le (by rw [← HM.out.2.1]; exact Nat.le_refl _), List.drop_eq_nil_of_le (by rw [← HM.out.2.1]; exact Nat.le_refl _)] at hS
      exact ⟨_, _, rfl, hS⟩
theorem rdints_spec {W w : World} {A : Assn} (p : Nat) (ns : List Int) (h : Sat W w (sep (isRd 85 p (.ok (intsE ns))) A)) (hn : ns.length ≤ 100) (h64 : ∀ n ∈ ns, -9223372036854775808 ≤ n ∧ n ≤ 9223372036854775807) :
    Calls Try.prog 32 #[.pointer (some ⟨p, 0, none⟩)] w fun r w' => ∃ a c, r = .returned (.slice a ns.length c) ∧ Sat W w' (sep (osl 3 1 a ns.length c (ns.map iv)) (sep (isRd 85 p (.ok [])) A)) := by
  have HU := Lib.hid (listI_ok p ns h hn h64)
  clear h hn h64
  go_enter Try.func32, Try.ntmps32
  go_wp2_with fail
  refine HU.out.mono ?_
  rintro r w2 ⟨a, c, rfl, hS⟩
  go_wp2_with fail
  go_ret
  exact ⟨a, c, rfl, hS⟩
end Go.Proofs.Ytcnonbhhlbplpaa
