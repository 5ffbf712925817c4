/- Package wire: the reader's Raw. -/
import Derived.Test.YtdaknmcmjnbfeaaGreatGJournalRuns34
import Derived.Deep.DeepCutAuto
namespace Go.Proofs.YtdaknmcmjnbfeaaGreat
open Go.RowKit PA
set_option maxHeartbeats 1000000 in
theorem list_short {W w : World} {A : Assn} (p : Nat) (st : RSt) (h : Sat W w (sep (isRd 118 p st) A)) (hl : RSt.small st) (n : Nat) (l : List UInt8) (he : stU st = (n, .ok l)) (hn : l.length < n) (f : Value) :
    Calls Tryz.prog 92 #[.pointer (some ⟨p, 0, none⟩), f] w fun r w' => r = .returned (.slice none 0 0) ∧ Sat W w' (sep (isRd 118 p (.error 3)) A) := by
  have hu := rduint_spec p st h hl
  have hsm := stU_small hl
  rw [he] at hu hsm
  have hll : l.length ≤ 1073742900 := hsm
  have HU := Lib.hid hu
  obtain ⟨m, hm⟩ : ∃ m, m = l.length := ⟨_, rfl⟩
  rw [← hm] at hn hll
  have hwl : IntKind.u64.wrap (m : Int) = (m : Int) := wraps_u64 _ (by omega) (by omega)
  have HM := Lib.hid hm
  have hnI : (m : Int) < n := by omega
  have hn0 : (0 : Int) < (n : Int) := by omega
  clear hu he h hl hm hsm hll hn
  go_enter Tryz.func92, Tryz.ntmps92
  go_wp2_with fail
  refine HU.out.mono ?_
  rintro r w2 ⟨rfl, hS⟩
  have c1 := isRd_cell_ok hS
  obtain ⟨a, k, c, c0, hk⟩ := isRd_slice hS
  have hk2 := (hk l rfl).trans HM.out.symm
  subst hk2
  clear hk
  go_wp2_with fail
  refine (fail_ok p l 3 (by omega) hS).mono ?_
  rintro r w3 ⟨rfl, hS3⟩
  obtain ⟨c3, -⟩ := isRd_cell_er hS3
  clear c1 c0 hS
  go_wp2_with fail
  go_loop [7] (fun iv => iv = .int .u64 0) (fun _ => 0)
  case atStart => exact rfl
  case round =>
    obtain rfl := hrel
    go_wp2_with fail
    go_ret
    exact ⟨rfl, hS3⟩
set_option maxHeartbeats 2000000 in
theorem list_ok {W w : World} {A : Assn} (p : Nat) (st : RSt) (h : Sat W w (sep (isRd 118 p st) A)) (hl : RSt.small st) (n : Nat) (l : List UInt8) (he : stU st = (n, .ok l)) (hn : n ≤ l.length) :
    Calls Tryz.prog 92 #[.pointer (some ⟨p, 0, none⟩), .func (.func 90) #[.pointer (some ⟨p, 0, none⟩)] #[]] w fun r w' => ∃ v, r = .returned v ∧ Sat W w' (sep (rBytes.is [v] (l.take n)) (sep (isRd 118 p (.ok (l.drop n))) A)) := by
  have hu := rduint_spec p st h hl
  have hsm := stU_small hl
  rw [he] at hu hsm
  have hll : l.length ≤ 1073742900 := hsm
  have HU := Lib.hid hu
  have HLL := Lib.hid hll
  have HNL := Lib.hid hn
  obtain ⟨m, hm⟩ : ∃ m, m = l.length := ⟨_, rfl⟩
  rw [← hm] at hn hll
  have hwl : IntKind.u64.wrap (m : Int) = (m : Int) := wraps_u64 _ (by omega) (by omega)
  have HM := Lib.hid hm
  have hnI : ¬ m < n := by omega
  have hnb : (n : Int) ≤ 1073742900 := by omega
  clear hu he h hl hm hsm hll hn
  go_enter Tryz.func92, Tryz.ntmps92
  go_wp2_with fail
  refine HU.out.mono ?_
  rintro r w2 ⟨rfl, hS⟩
  have c1 := isRd_cell_ok hS
  obtain ⟨a, k, c, c0, hk⟩ := isRd_slice hS
  have hk2 := (hk l rfl).trans HM.out.symm
  subst hk2
  clear hk
  go_wp2_with fail
  clear c0 c1 hwl hnI
  go_loopw [6, 7] (fun ov iv wr => ∃ (i : Nat) (a : Option Addr) (c : Nat) (vs : List Value), iv = .int .u64 (i : Nat) ∧ i ≤ n ∧ ov = .slice a i c ∧ Hid (vs = (l.take i).map bv) ∧ Sat W wr (sep (osl 5 1 a i c vs) (sep (isRd 118 p (.ok (l.drop i))) A))) (fun _ iv _ => n - (intOf iv).toNat)
  case atStart => exact ⟨0, none, 0, [], rfl, Nat.zero_le _, rfl, Lib.hid rfl, hS.osl_nil _ _⟩
  case round =>
    clear hS
    obtain ⟨i, a, c, vs, rfl, hi, rfl, HV, hS⟩ := hrel
    by_cases hin : i < n
    · have hil : i < l.length := by have := HNL.out; omega
      obtain ⟨x, hx⟩ : ∃ x, x = l[i] := ⟨_, rfl⟩
      have hd : l.drop i = x :: l.drop (i + 1) := by rw [hx]; exact List.drop_eq_getElem_cons hil
      have c1 := isRd_cell_ok hS.p1
      have hS2 := hS.p1
      rw [hd] at hS2
      have hnx := Lib.hid (next_ok p x _ hS2 (by rw [List.length_drop]; have := HLL.out; omega))
      have hinI : (i : Int) < n := by omega
      have HX := Lib.hid hx
      have HI := Lib.hid hi
      have HIL := Lib.hid hil
      clear hx hd hS hS2 hi
      go_wp2_with fail
      refine hnx.out.mono ?_
      rintro r w3 ⟨rfl, hS3⟩
      have hB := (hS3.p1.alloc0 (.cells #[.int .u8 (x.toNat : Nat)] 5))
      clear hS3 c1 hnx
      go_wp2_with (at_builtin; (refine wpl_append_osl rfl (.tmp 32) (.tmp 35) 39 rfl 5 1 1 (.int .u8 0) Tryz.underlying39 infoU8w rfl rfl hB rfl [.int .u8 (x.toNat : Nat)] rfl (by simp) (by intro b hb; cases hb; exact new_src _ [_] _) (by simp [Value.oneCell']) (by omega) (by unfold maxLen; omega) ?_))
      intro a2 c2 w4 h4
      clear hB
      go_wp2_with fail
      go_roundw
      case rel =>
        refine ⟨i + 1, a2, c2, _, by go_num, by omega, rfl, Lib.hid ?_, h4⟩
        rw [HV.out, List.take_succ_eq_append_getElem HIL.out, List.map_append, List.map_cons, List.map_nil, bv, ← HX.out]
      case measure => simp [intOf]; omega
    · obtain rfl : i = n := by omega
      have hinI : ¬ (i : Int) < (i : Int) := by omega
      have c1 := isRd_cell_ok hS.p1
      go_wp2_with fail
      go_ret
      rw [HV.out] at hS
      exact ⟨_, rfl, hS.bytes_of_osl.2⟩
theorem stR_er {st : RSt} {e : Int} (h : stU st = (0, .error e)) : stR st = ([], .error e) := by
  cases st with
  | error e' => have := congrArg Prod.snd h; simp [stU] at this; subst this; rfl
  | ok l =>
    unfold stU at h; dsimp only at h
    unfold stR rawP; dsimp only
    cases hu : uintP l with
    | error e' => rw [hu] at h; simp at h; subst h; rfl
    | ok x => rw [hu] at h; simp at h
theorem stR_ok {st : RSt} {n : Nat} {l : List UInt8} (h : stU st = (n, .ok l)) : stR st = if l.length < n then ([], .error 3) else (l.take n, .ok (l.drop n)) := by
  cases st with
  | error e' => simp [stU] at h
  | ok l' =>
    unfold stU at h; dsimp only at h
    unfold stR rawP; dsimp only
    cases hu : uintP l' with
    | error e' => rw [hu] at h; simp at h
    | ok x =>
      obtain ⟨n', l2⟩ := x
      rw [hu] at h; simp at h
      obtain ⟨rfl, rfl⟩ := h
      dsimp only
      by_cases hlt : l2.length < n'
      · rw [if_pos hlt, if_pos hlt]
      · rw [if_neg hlt, if_neg hlt]
theorem stU_cases (st : RSt) : (∃ e, stU st = (0, .error e)) ∨ ∃ n l, stU st = (n, .ok l) := by
  cases st with
  | error e => exact .inl ⟨e, rfl⟩
  | ok l =>
    unfold stU; dsimp only
    cases uintP l with
    | error e => exact .inl ⟨e, rfl⟩
    | ok x => exact .inr ⟨_, _, rfl⟩
theorem list_spec {W w : World} {A : Assn} (p : Nat) (st : RSt) (h : Sat W w (sep (isRd 118 p st) A)) (hl : RSt.small st) :
    Calls Tryz.prog 92 #[.pointer (some ⟨p, 0, none⟩), .func (.func 90) #[.pointer (some ⟨p, 0, none⟩)] #[]] w fun r w' => ∃ v, r = .returned v ∧ Sat W w' (sep (rBytes.is [v] (stR st).1) (sep (isRd 118 p (stR st).2) A)) := by
  rcases stU_cases st with ⟨e, he⟩ | ⟨n, l, he⟩
  · rw [stR_er he]
    exact (list_er p st h hl e he _).mono fun r w' ⟨h1, h2⟩ => ⟨_, h1, h2.bytes_nil⟩
  · rw [stR_ok he]
    by_cases hlt : l.length < n
    · rw [if_pos hlt]
      exact (list_short p st h hl n l he hlt _).mono fun r w' ⟨h1, h2⟩ => ⟨_, h1, h2.bytes_nil⟩
    · rw [if_neg hlt]
      exact list_ok p st h hl n l he (by omega)
theorem rdraw_spec {W w : World} {A : Assn} (p : Nat) (st : RSt) (h : Sat W w (sep (isRd 118 p st) A)) (hl : RSt.small st) :
    Calls Tryz.prog 78 #[.pointer (some ⟨p, 0, none⟩)] w fun r w' => ∃ v, r = .returned v ∧ Sat W w' (sep (rBytes.is [v] (stR st).1) (sep (isRd 118 p (stR st).2) A)) := by
  have HU := Lib.hid (list_spec p st h hl)
  clear h hl
  go_enter Tryz.func78, Tryz.ntmps78
  go_wp2_with fail
  refine HU.out.mono ?_
  rintro r w2 ⟨v, rfl, hS⟩
  go_wp2_with fail
  go_ret
  exact ⟨v, rfl, hS⟩
theorem stR_small {st : RSt} (h : RSt.small st) : RSt.small (stR st).2 := by
  have h1 := stU_small h
  rcases stU_cases st with ⟨e, he⟩ | ⟨n, l, he⟩
  · rw [stR_er he]; trivial
  · rw [stR_ok he]
    rw [he] at h1
    by_cases hlt : l.length < n
    · rw [if_pos hlt]; trivial
    · rw [if_neg hlt]
      have : l.length ≤ 1073742900 := h1
      show (l.drop n).length ≤ _
      rw [List.length_drop]; omega
theorem stR_len {st : RSt} (h : RSt.small st) : (stR st).1.length ≤ 1073742900 := by
  have h1 := stU_small h
  rcases stU_cases st with ⟨e, he⟩ | ⟨n, l, he⟩
  · rw [stR_er he]; exact Nat.zero_le _
  · rw [stR_ok he]
    rw [he] at h1
    by_cases hlt : l.length < n
    · rw [if_pos hlt]; exact Nat.zero_le _
    · rw [if_neg hlt]
      have : l.length ≤ 1073742900 := h1
      show (l.take n).length ≤ _
      rw [List.length_take]; omega
end Go.Proofs.YtdaknmcmjnbfeaaGreat
/- The reference's reader: Uint. -/
namespace Go.Proofs.YtdaknmcmjnbfeaaGreat
open Go.RowKit PA
theorem isRd_read {W w : World} {A : Assn} {T p : Nat} {l : List UInt8} (h : Sat W w (sep (isRd T p (.ok l)) A)) : ∃ a c, w.cell? ⟨p, 0, none⟩ = some (.slice a l.length c) ∧ Swf a l.length c ∧ (∀ j (hj : j < l.length), ∃ b o, a = some ⟨b, o, none⟩ ∧ w.cell? ⟨b, o + j, none⟩ = some (.int .u8 (l[j].toNat : Nat))) ∧
    (∀ j, j ≤ l.length → ∀ b o, a = some ⟨b, o, none⟩ → Sat W (w.setCell ⟨p, 0, none⟩ (.slice (if c = j then some ⟨b, o, none⟩ else some ⟨b, o + j, none⟩) (l.length - j) (c - j))) (sep (isRd T p (.ok (l.drop j))) A)) ∧
    (∀ e : Int, 0 < e → Sat W (w.setCell ⟨p, 1, none⟩ (.int .i64 e)) (sep (isRd T p (.error e)) A)) ∧ w.frozen? ⟨p, 0, none⟩ = false ∧ w.frozen? ⟨p, 1, none⟩ = false := by
  obtain ⟨a, c, hw, h1⟩ := isRd_ok h
  obtain ⟨-, -, -, hc⟩ := h1.p1.bytes_src
  refine ⟨a, c, h1.cell 0, hw, hc, fun j hj b o e => ?_, fun e he => ?_, h1.unfrozen 0, h1.unfrozen 1⟩
  · subst e
    have h2 : ∀ v, Sat W (w.setCell ⟨p, 0, none⟩ v) (sep (blk p (.cells #[v, .int .i64 0] T (0, 0))) (sep (rBytes.is [.slice (some ⟨b, o, none⟩) l.length c] l) A)) := fun v => h1.setCell 0 v
    exact isRd_okmk (by simp) ((h2 _).p1.bytes_drop j rfl hj).p1
  · have h2 : Sat W (w.setCell ⟨p, 1, none⟩ (.int .i64 e)) (sep (blk p (.cells #[.slice a l.length c, .int .i64 e] T (0, 0))) (sep (rBytes.is [.slice a l.length c] l) A)) := h1.setCell 1 _
    exact isRd_ermk he h2.p1.tail
set_option maxHeartbeats 2000000 in
theorem rruint_ok {W w : World} {A : Assn} (p : Nat) (l0 : List UInt8) (h : Sat W w (sep (isRd 100 p (.ok l0)) A)) (hl : l0.length ≤ 1073742900) :
    Calls Tryz.prog 83 #[.pointer (some ⟨p, 0, none⟩)] w fun r w' => r = .returned (.int .u64 ((stU (.ok l0)).1 : Nat)) ∧ Sat W w' (sep (isRd 100 p (stU (.ok l0)).2) A) := by
  obtain ⟨ad, c, c0, hsw, hcell, hdrop, herr, f0, f1⟩ := isRd_read h
  have c1 := isRd_cell_ok h
  obtain ⟨n0, hn0⟩ : ∃ n0, n0 = l0.length := ⟨_, rfl⟩
  rw [← hn0] at c0
  have hnI : (n0 : Int) ≤ 1073742900 := by omega
  have hcm : (c : Int) ≤ 9223372036854775807 := by have := hsw.2.1; unfold maxLen at this; omega
  have hnc : n0 ≤ c := by have := hsw.1; omega
  have HN0 := Lib.hid hn0
  have HCELL := Lib.hid hcell
  have HDROP := Lib.hid hdrop
  have HERR := Lib.hid herr
  have HCM := Lib.hid hcm
  have HNC := Lib.hid hnc
  have fin : ∀ e : Int, 0 < e → uintP l0 = .error e → (Ending.returned (.int .u64 0) = Ending.returned (.int .u64 ((stU (.ok l0)).1 : Nat)) ∧ Sat W (w.setCell ⟨p, 1, none⟩ (.int .i64 e)) (sep (isRd 100 p (stU (.ok l0)).2) A)) := fun e he hu => by
    have e1 : stU (.ok l0) = (0, .error e) := by unfold stU; dsimp only; rw [hu]
    rw [e1]; exact ⟨rfl, herr e he⟩
  have FIN := Lib.hid fin
  clear hn0 hcell hdrop herr hl h hsw hcm hnc fin
  go_enter Tryz.func83, Tryz.ntmps83
  go_wp2_with fail
  go_loop [3, 4, 5] (fun nv uv iv => ∃ i n : Nat, iv = .int .i64 (i : Nat) ∧ nv = .int .u64 (n : Nat) ∧ uv = .int .u64 ((128 ^ i : Nat) : Int) ∧ i ≤ 9 ∧ Hid (n < 128 ^ i ∧ uintGo i n (l0.drop i) = uintP l0 ∧ i ≤ n0)) (fun _ _ iv => 20 - (intOf iv).toNat)
  case atStart => exact ⟨0, 0, rfl, rfl, rfl, by omega, Lib.hid ⟨by decide, rfl, by omega⟩⟩
  case round =>
    obtain ⟨i, n, rfl, rfl, rfl, hi9, HG⟩ := hrel
    obtain ⟨u, hu⟩ : ∃ u, u = 128 ^ i := ⟨_, rfl⟩
    rw [← hu]
    have HU := Lib.hid hu
    have hiI : (i : Int) ≤ 9 := by omega
    have hiI0 : (0 : Int) ≤ (i : Int) := by omega
    have HI9 := Lib.hid hi9
    clear hu hi9
    by_cases hend : i < n0
    · have hil : i < l0.length := by rw [← HN0.out]; exact hend
      obtain ⟨b, o, rfl, hc⟩ := HCELL.out i hil
      obtain ⟨x, hx⟩ : ∃ x, x = l0[i] := ⟨_, rfl⟩
      have hd : l0.drop i = x :: l0.drop (i + 1) := by rw [hx]; exact List.drop_eq_getElem_cons hil
      rw [← hx] at hc
      obtain ⟨m, hm⟩ : ∃ m, m = x.toNat := ⟨_, rfl⟩
      have hm2 : m < 256 := by rw [hm]; exact x.toNat_lt
      rw [← hm] at hc
      have hgo := HG.out.2.1
      rw [hd] at hgo
      have hbn : decide ((n0 : Int) ≤ (i : Int)) = false := by simp; omega
      have hltI : (i : Int) < n0 := by omega
      have HIL := Lib.hid hil
      have HX := Lib.hid hx
      have HD := Lib.hid hd
      clear hx hd
      by_cases hbad : (i = 9 ∧ 1 < m) ∨ (0 < i ∧ m = 0)
      · have he : uintP l0 = .error 2 := by rw [← hgo]; exact uintGo_bad _ _ _ _ (by rw [← hm]; exact hbad)
        have HE := Lib.hid he
        clear hgo he hm hm2
        rcases hbad with ⟨rfl, h1⟩ | ⟨h1, rfl⟩
        · go_wp2_with fail
          go_ret
          exact FIN.out 2 (by omega) HE.out
        · by_cases h9 : i = 9
          · subst h9
            go_wp2_with fail
            go_ret
            exact FIN.out 2 (by omega) HE.out
          · have b1 : ((i : Int) == 9) = false := by simp; omega
            clear h9
            go_wp2_with fail
            go_ret
            exact FIN.out 2 (by omega) HE.out
      · obtain ⟨k, hk⟩ : ∃ k, k = m % 128 := ⟨_, rfl⟩
        have hk128 : k < 128 := by omega
        have hmk : (m : Int) % 128 = (k : Int) := by omega
        have HMK := Lib.hid hmk
        clear hmk
        have HK := Lib.hid hk
        have HM2 := Lib.hid hm2
        have HGO := Lib.hid hgo
        have HM := Lib.hid hm
        have hbad2 : (i = 9 → m ≤ 1) ∧ (0 < i → m ≠ 0) := ⟨fun e => by omega, fun e => by omega⟩
        have HB2 := Lib.hid hbad2
        have HBAD := Lib.hid hbad
        clear hk hm2 hgo hm hbad2 hbad hk128
        have hdec : decide (n0 ≤ i) = false := by simp; omega
        have HEND := Lib.hid hend
        have hcases : (((i : Int) == 9) = false ∧ decide (0 < i) = false) ∨ (((i : Int) == 9) = false ∧ 0 < i ∧ ((m : Int) == 0) = false) ∨ (((i : Int) == 9) = true ∧ decide ((1 : Int) < (m : Int)) = false ∧ 0 < i ∧ ((m : Int) == 0) = false) := by
          by_cases h0 : i = 0
          · exact .inl ⟨by simp [h0], by simp [h0]⟩
          · have hm0 : m ≠ 0 := HB2.out.2 (by omega)
            by_cases h9 : i = 9
            · exact .inr (.inr ⟨by simp [h9], by have := HB2.out.1 h9; simp; omega, by omega, by simp; omega⟩)
            · exact .inr (.inl ⟨by simp; omega, by omega, by simp; omega⟩)
        clear hend hbn
        rcases hcases with ⟨b9, bz⟩ | ⟨b9, hi0, bm0⟩ | ⟨b9, b1, hi0, bm0⟩
        all_goals
          go_upto_if 58 with (fail)
          rw [HMK.out]
          generalize hV : IntKind.u64.wrap ((n : Int) + IntKind.u64.wrap ((k : Int) * (u : Int))) = V
          generalize hU2 : IntKind.u64.wrap ((u : Int) * 128) = U2
          have hkv := or_var n k i HG.out.1 (by rw [HK.out]; exact Nat.mod_lt _ (by decide)) HI9.out (fun e => by have := HB2.out.1 e; rw [HK.out]; omega)
          have hVN : V = ((n + k * 128 ^ i : Nat) : Int) := by
            rw [← hV, HU.out]
            have h2 := hkv.2
            generalize 128 ^ i = p at h2 ⊢
            have e1 : IntKind.u64.wrap ((k : Int) * (p : Int)) = ((k * p : Nat) : Int) := by
              rw [← Int.natCast_mul]; exact wraps_u64 _ (by omega) (by have : k * p < 2 ^ 64 := by omega
                                                                       exact_mod_cast this)
            rw [e1]
            rw [wraps_u64 _ (by omega) (by omega)]
            omega
          have HVN := Lib.hid hVN
          have HU2 := Lib.hid hU2
          clear hV hkv hVN hU2
          by_cases hs : m < 128
          · have hu := uintGo_end i n x (l0.drop (i + 1)) (by rw [← HM.out]; exact HBAD.out) (by rw [← HM.out]; exact hs)
            rw [HGO.out, ← HM.out] at hu
            have hkm : k = m := by rw [HK.out]; exact Nat.mod_eq_of_lt hs
            rw [hkm] at HVN
            have e1 : stU (.ok l0) = (n + m * 128 ^ i, .ok (l0.drop (i + 1))) := by unfold stU; dsimp only; rw [hu]
            have hd := HDROP.out (i + 1) HIL.out b o rfl
            have E1 := Lib.hid e1
            have HD2 := Lib.hid hd
            have hs1 : decide ((m : Int) < 128) = true := by simp; omega
            have hnc := HNC.out
            have hcm := HCM.out
            clear hu hkm e1 hd hs
            (try clear bm0)
            (try clear hi0)
            (try clear b1)
            (try clear bz)
            clear b9 hdec
            rw [hs1]
            clear hs1
            by_cases hc1 : c = i + 1
            · go_wp2_with fail
              go_ret
              rw [E1.out]
              have h9 := HD2.out
              rw [if_pos hc1, ← HN0.out, hc1, Nat.sub_self] at h9
              exact ⟨ret_int HVN.out, h9⟩
            · go_wp2_with fail
              go_ret
              rw [E1.out]
              have h9 := HD2.out
              rw [if_neg hc1, ← HN0.out] at h9
              exact ⟨ret_int HVN.out, h9⟩
          · have hk2 : k = m - 128 := by rw [HK.out]; have := HM2.out; omega
            have h8 : i ≤ 8 := by
              by_cases h9 : i = 9
              · have := HB2.out.1 h9; omega
              · have := HI9.out; omega
            have hu := uintGo_on i n x (l0.drop (i + 1)) (by rw [← HM.out]; exact HBAD.out) (by rw [← HM.out]; exact hs)
            rw [HGO.out, ← HM.out, ← hk2] at hu
            have hu2 : U2 = ((128 ^ (i + 1) : Nat) : Int) := by
              rw [← HU2.out, HU.out]
              have h3 : (128 : Nat) ^ i ≤ 72057594037927936 := by
                have : (128 : Nat) ^ i ≤ 128 ^ 8 := Nat.pow_le_pow_right (by decide) h8
                exact this
              rw [Nat.pow_succ]
              generalize (128 : Nat) ^ i = q at h3 ⊢
              rw [wraps_u64 _ (by omega) (by omega)]
              omega
            have hstep := uint_step n m i HG.out.1 (by omega) HM2.out
            rw [← hk2] at hstep
            have HUU := Lib.hid hu
            have HUT := Lib.hid hu2
            have HST := Lib.hid hstep
            have H8 := Lib.hid h8
            have hs1 : decide ((m : Int) < 128) = false := by simp; omega
            rw [hs1]
            clear hs1 hs hk2 hu hu2 hstep h8
            (try clear bm0)
            (try clear hi0)
            (try clear b1)
            (try clear bz)
            clear b9 hdec
            go_wp2_with fail
            exact ⟨⟨i + 1, n + k * 128 ^ i, by go_num, by rw [HVN.out], by rw [HUT.out], by have := H8.out; omega, Lib.hid ⟨HST.out, HUU.out.symm, by have := HEND.out; omega⟩⟩, by simp [intOf]; omega⟩
    · have hbn : decide ((n0 : Int) ≤ (i : Int)) = true := by simp; omega
      have hge : (n0 : Int) ≤ (i : Int) := by omega
      have he : uintP l0 = .error 3 := by
        rw [← HG.out.2.1, List.drop_eq_nil_of_le (by rw [← HN0.out]; omega), uintGo]
      have HE := Lib.hid he
      clear he hend
      go_wp2_with fail
      go_ret
      exact FIN.out 3 (by omega) HE.out
end Go.Proofs.YtdaknmcmjnbfeaaGreat
