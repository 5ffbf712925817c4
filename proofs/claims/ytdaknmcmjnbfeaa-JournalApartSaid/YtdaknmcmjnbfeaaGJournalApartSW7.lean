/- Package wire: the reader's Raw. -/
import Derived.Test.YtdaknmcmjnbfeaaGJournalApart21
namespace Go.Proofs.Ytdaknmcmjnbfeaa
open Go.RowKit PA
set_option maxHeartbeats 1000000 in
theorem list_short {W w : World} {A : Assn} (p : Nat) (st : RSt) (h : Sat W w (sep (isRd 75 p st) A)) (hl : RSt.small st) (n : Nat) (l : List UInt8) (he : stU st = (n, .ok l)) (hn : l.length < n) (f : Value) :
    Calls Try.prog 47 #[.pointer (some ⟨p, 0, none⟩), f] w fun r w' => r = .returned (.slice none 0 0) ∧ Sat W w' (sep (isRd 75 p (.error 3)) A) := by
  have hu := rduint_spec p st h hl
  have hsm := stU_small hl
  rw [he] at hu hsm
  have hll : l.length ≤ 1073742900 := hsm
  have HU := Lib.hid hu
  obtain ⟨m, hm⟩ : ∃ m, m = l.length := ⟨_, rfl⟩
  rw [← hm] at hn hll
  have hwl : IntKind.u64.wrap (m : Int) = (m : Int) := wraps_u64 _ (by omega) (by omega)
  have HM := Lib.hid hm
  have hnI : (m : Int) < n := by omega
  have hn0 : (0 : Int) < (n : Int) := by omega
  clear hu he h hl hm hsm hll hn
  go_enter Try.func47, Try.ntmps47
  go_wp2_with fail
  refine HU.out.mono ?_
  rintro r w2 ⟨rfl, hS⟩
  have c1 := isRd_cell_ok hS
  obtain ⟨a, k, c, c0, hk⟩ := isRd_slice hS
  have hk2 := (hk l rfl).trans HM.out.symm
  subst hk2
  clear hk
  go_wp2_with fail
  refine (fail_ok p l 3 (by omega) hS).mono ?_
  rintro r w3 ⟨rfl, hS3⟩
  obtain ⟨c3, -⟩ := isRd_cell_er hS3
  clear c1 c0 hS
  go_wp2_with fail
  go_loop [7] (fun iv => iv = .int .u64 0) (fun _ => 0)
  case atStart => exact rfl
  case round =>
    obtain rfl := hrel
    go_wp2_with fail
    go_ret
    exact ⟨rfl, hS3⟩
set_option maxHeartbeats 2000000 in
theorem list_ok {W w : World} {A : Assn} (p : Nat) (st : RSt) (h : Sat W w (sep (isRd 75 p st) A)) (hl : RSt.small st) (n : Nat) (l : List UInt8) (he : stU st = (n, .ok l)) (hn : n ≤ l.length) :
    Calls Try.prog 47 #[.pointer (some ⟨p, 0, none⟩), .func (.func 48) #[.pointer (some ⟨p, 0, none⟩)] #[]] w fun r w' => ∃ v, r = .returned v ∧ Sat W w' (sep (rBytes.is [v] (l.take n)) (sep (isRd 75 p (.ok (l.drop n))) A)) := by
  have hu := rduint_spec p st h hl
  have hsm := stU_small hl
  rw [he] at hu hsm
  have hll : l.length ≤ 1073742900 := hsm
  have HU := Lib.hid hu
  have HLL := Lib.hid hll
  have HNL := Lib.hid hn
  obtain ⟨m, hm⟩ : ∃ m, m = l.length := ⟨_, rfl⟩
  rw [← hm] at hn hll
  have hwl : IntKind.u64.wrap (m : Int) = (m : Int) := wraps_u64 _ (by omega) (by omega)
  have HM := Lib.hid hm
  have hnI : ¬ m < n := by omega
  have hnb : (n : Int) ≤ 1073742900 := by omega
  clear hu he h hl hm hsm hll hn
  go_enter Try.func47, Try.ntmps47
  go_wp2_with fail
  refine HU.out.mono ?_
  rintro r w2 ⟨rfl, hS⟩
  have c1 := isRd_cell_ok hS
  obtain ⟨a, k, c, c0, hk⟩ := isRd_slice hS
  have hk2 := (hk l rfl).trans HM.out.symm
  subst hk2
  clear hk
  go_wp2_with fail
  clear c0 c1 hwl hnI
  go_loopw [6, 7] (fun ov iv wr => ∃ (i : Nat) (a : Option Addr) (c : Nat) (vs : List Value), iv = .int .u64 (i : Nat) ∧ i ≤ n ∧ ov = .slice a i c ∧ Hid (vs = (l.take i).map bv) ∧ Sat W wr (sep (osl 5 1 a i c vs) (sep (isRd 75 p (.ok (l.drop i))) A))) (fun _ iv _ => n - (intOf iv).toNat)
  case atStart => exact ⟨0, none, 0, [], rfl, Nat.zero_le _, rfl, Lib.hid rfl, hS.osl_nil _ _⟩
  case round =>
    clear hS
    obtain ⟨i, a, c, vs, rfl, hi, rfl, HV, hS⟩ := hrel
    by_cases hin : i < n
    · have hil : i < l.length := by have := HNL.out; omega
      obtain ⟨x, hx⟩ : ∃ x, x = l[i] := ⟨_, rfl⟩
      have hd : l.drop i = x :: l.drop (i + 1) := by rw [hx]; exact List.drop_eq_getElem_cons hil
      have c1 := isRd_cell_ok hS.p1
      have hS2 := hS.p1
      rw [hd] at hS2
      have hnx := Lib.hid (next_ok p x _ hS2 (by rw [List.length_drop]; have := HLL.out; omega))
      have hinI : (i : Int) < n := by omega
      have HX := Lib.hid hx
      have HI := Lib.hid hi
      have HIL := Lib.hid hil
      clear hx hd hS hS2 hi
      go_wp2_with fail
      refine hnx.out.mono ?_
      rintro r w3 ⟨rfl, hS3⟩
      have hB := (hS3.p1.alloc0 (.cells #[.int .u8 (x.toNat : Nat)] 5))
      clear hS3 c1 hnx
      go_wp2_with (at_builtin; (refine wpl_append_osl rfl (.tmp 32) (.tmp 35) 23 rfl 5 1 1 (.int .u8 0) Try.underlying23 infoU8w rfl rfl hB rfl [.int .u8 (x.toNat : Nat)] rfl (by simp) (by intro b hb; cases hb; exact new_src _ [_] _) (by simp [Value.oneCell']) (by omega) (by unfold maxLen; omega) ?_))
      intro a2 c2 w4 h4
      clear hB
      go_wp2_with fail
      go_roundw
      case rel =>
        refine ⟨i + 1, a2, c2, _, by go_num, by omega, rfl, Lib.hid ?_, h4⟩
        rw [HV.out, List.take_succ_eq_append_getElem HIL.out, List.map_append, List.map_cons, List.map_nil, bv, ← HX.out]
      case measure => simp [intOf]; omega
    · obtain rfl : i = n := by omega
      have hinI : ¬ (i : Int) < (i : Int) := by omega
      have c1 := isRd_cell_ok hS.p1
      go_wp2_with fail
      go_ret
      rw [HV.out] at hS
      exact ⟨_, rfl, hS.bytes_of_osl.2⟩
theorem stR_er {st : RSt} {e : Int} (h : stU st = (0, .error e)) : stR st = ([], .error e) := by
  cases st with
  | error e' => have := congrArg Prod.snd h; simp [stU] at this; subst this; rfl
  | ok l =>
    unfold stU at h; dsimp only at h
    unfold stR rawP; dsimp only
    cases hu : uintP l with
    | error e' => rw [hu] at h; simp at h; subst h; rfl
    | ok x => rw [hu] at h; simp at h
theorem stR_ok {st : RSt} {n : Nat} {l : List UInt8} (h : stU st = (n, .ok l)) : stR st = if l.length < n then ([], .error 3) else (l.take n, .ok (l.drop n)) := by
  cases st with
  | error e' => simp [stU] at h
  | ok l' =>
    unfold stU at h; dsimp only at h
    unfold stR rawP; dsimp only
    cases hu : uintP l' with
    | error e' => rw [hu] at h; simp at h
    | ok x =>
      obtain ⟨n', l2⟩ := x
      rw [hu] at h; simp at h
      obtain ⟨rfl, rfl⟩ := h
      dsimp only
      by_cases hlt : l2.length < n'
      · rw [if_pos hlt, if_pos hlt]
      · rw [if_neg hlt, if_neg hlt]
theorem stU_cases (st : RSt) : (∃ e, stU st = (0, .error e)) ∨ ∃ n l, stU st = (n, .ok l) := by
  cases st with
  | error e => exact .inl ⟨e, rfl⟩
  | ok l =>
    unfold stU; dsimp only
    cases uintP l with
    | error e => exact .inl ⟨e, rfl⟩
    | ok x => exact .inr ⟨_, _, rfl⟩
theorem list_spec {W w : World} {A : Assn} (p : Nat) (st : RSt) (h : Sat W w (sep (isRd 75 p st) A)) (hl : RSt.small st) :
    Calls Try.prog 47 #[.pointer (some ⟨p, 0, none⟩), .func (.func 48) #[.pointer (some ⟨p, 0, none⟩)] #[]] w fun r w' => ∃ v, r = .returned v ∧ Sat W w' (sep (rBytes.is [v] (stR st).1) (sep (isRd 75 p (stR st).2) A)) := by
  rcases stU_cases st with ⟨e, he⟩ | ⟨n, l, he⟩
  · rw [stR_er he]
    exact (list_er p st h hl e he _).mono fun r w' ⟨h1, h2⟩ => ⟨_, h1, h2.bytes_nil⟩
  · rw [stR_ok he]
    by_cases hlt : l.length < n
    · rw [if_pos hlt]
      exact (list_short p st h hl n l he hlt _).mono fun r w' ⟨h1, h2⟩ => ⟨_, h1, h2.bytes_nil⟩
    · rw [if_neg hlt]
      exact list_ok p st h hl n l he (by omega)
theorem rdraw_spec {W w : World} {A : Assn} (p : Nat) (st : RSt) (h : Sat W w (sep (isRd 75 p st) A)) (hl : RSt.small st) :
    Calls Try.prog 25 #[.pointer (some ⟨p, 0, none⟩)] w fun r w' => ∃ v, r = .returned v ∧ Sat W w' (sep (rBytes.is [v] (stR st).1) (sep (isRd 75 p (stR st).2) A)) := by
  have HU := Lib.hid (list_spec p st h hl)
  clear h hl
  go_enter Try.func25, Try.ntmps25
  go_wp2_with fail
  refine HU.out.mono ?_
  rintro r w2 ⟨v, rfl, hS⟩
  go_wp2_with fail
  go_ret
  exact ⟨v, rfl, hS⟩
theorem stR_small {st : RSt} (h : RSt.small st) : RSt.small (stR st).2 := by
  have h1 := stU_small h
  rcases stU_cases st with ⟨e, he⟩ | ⟨n, l, he⟩
  · rw [stR_er he]; trivial
  · rw [stR_ok he]
    rw [he] at h1
    by_cases hlt : l.length < n
    · rw [if_pos hlt]; trivial
    · rw [if_neg hlt]
      have : l.length ≤ 1073742900 := h1
      show (l.drop n).length ≤ _
      rw [List.length_drop]; omega
theorem stR_len {st : RSt} (h : RSt.small st) : (stR st).1.length ≤ 1073742900 := by
  have h1 := stU_small h
  rcases stU_cases st with ⟨e, he⟩ | ⟨n, l, he⟩
  · rw [stR_er he]; exact Nat.zero_le _
  · rw [stR_ok he]
    rw [he] at h1
    by_cases hlt : l.length < n
    · rw [if_pos hlt]; exact Nat.zero_le _
    · rw [if_neg hlt]
      have : l.length ≤ 1073742900 := h1
      show (l.take n).length ≤ _
      rw [List.length_take]; omega
end Go.Proofs.Ytdaknmcmjnbfeaa
