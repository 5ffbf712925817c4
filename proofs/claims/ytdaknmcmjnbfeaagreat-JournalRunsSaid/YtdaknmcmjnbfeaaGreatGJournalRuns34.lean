/- Package wire: the reader's Uint, Int, End. -/
import Derived.Test.YtdaknmcmjnbfeaaGreatGJournalRunsSW4
namespace Go.Proofs.YtdaknmcmjnbfeaaGreat
open Go.RowKit PA
theorem isRd_cell_ok {W w : World} {A : Assn} {T p : Nat} {l : List UInt8} (h : Sat W w (sep (isRd T p (.ok l)) A)) : w.cell? ⟨p, 1, none⟩ = some (.int .i64 0) := by
  obtain ⟨a, c, -, h1⟩ := isRd_ok h
  exact h1.cell 1
theorem isRd_cell_er {W w : World} {A : Assn} {T p : Nat} {e : Int} (h : Sat W w (sep (isRd T p (.error e)) A)) : w.cell? ⟨p, 1, none⟩ = some (.int .i64 e) ∧ 0 < e := by
  obtain ⟨he, a, n, c, h1⟩ := isRd_er h
  exact ⟨h1.cell 1, he⟩
def URel (W : World) (A : Assn) (T p : Nat) (l0 : List UInt8) (nv iv : Value) (wr : World) : Prop :=
  ∃ i : Nat, iv = .int .i64 (i : Nat) ∧ i ≤ 10 ∧ ((∃ (n : Nat) (l : List UInt8), nv = .int .u64 (n : Nat) ∧ i ≤ 9 ∧ n < 128 ^ i ∧ uintGo i n l = uintP l0 ∧ l.length ≤ 1073742900 ∧ Sat W wr (sep (isRd T p (.ok l)) A)) ∨
    (∃ (n e : Int), nv = .int .u64 n ∧ uintP l0 = .error e ∧ Sat W wr (sep (isRd T p (.error e)) A)))
theorem uintGo_bad (i n : Nat) (c : UInt8) (l : List UInt8) (h : (i = 9 ∧ 1 < c.toNat) ∨ (0 < i ∧ c.toNat = 0)) : uintGo i n (c :: l) = .error 2 := by rw [uintGo, if_pos h]
theorem uintGo_end (i n : Nat) (c : UInt8) (l : List UInt8) (h : ¬ ((i = 9 ∧ 1 < c.toNat) ∨ (0 < i ∧ c.toNat = 0))) (hs : c.toNat < 128) : uintGo i n (c :: l) = .ok (n + c.toNat * 128 ^ i, l) := by rw [uintGo, if_neg h, if_pos hs]
theorem uintGo_on (i n : Nat) (c : UInt8) (l : List UInt8) (h : ¬ ((i = 9 ∧ 1 < c.toNat) ∨ (0 < i ∧ c.toNat = 0))) (hs : ¬ c.toNat < 128) : uintGo i n (c :: l) = uintGo (i + 1) (n + (c.toNat - 128) * 128 ^ i) l := by rw [uintGo, if_neg h, if_neg hs]
set_option maxHeartbeats 2000000 in
theorem rduint_ok {W w : World} {A : Assn} (p : Nat) (l0 : List UInt8) (h : Sat W w (sep (isRd 118 p (.ok l0)) A)) (hl : l0.length ≤ 1073742900) :
    Calls Tryz.prog 77 #[.pointer (some ⟨p, 0, none⟩)] w fun r w' => r = .returned (.int .u64 ((stU (.ok l0)).1 : Nat)) ∧ Sat W w' (sep (isRd 118 p (stU (.ok l0)).2) A) := by
  have HL := Lib.hid hl
  clear hl
  go_enter Tryz.func77, Tryz.ntmps77
  go_wp2_with fail
  go_loopw [3, 4] (URel W A 118 p l0) (fun _ iv _ => 20 - (intOf iv).toNat)
  case atStart => exact ⟨0, rfl, by omega, .inl ⟨0, l0, rfl, by omega, by decide, rfl, HL.out, h⟩⟩
  case round =>
    clear h
    obtain ⟨i, rfl, hi10, ⟨n, l, rfl, hi9, hn, hgo, hll, hS⟩ | ⟨n, e, rfl, hgo, hS⟩⟩ := hrel
    · have c1 := isRd_cell_ok hS
      have hiI : (i : Int) ≤ 9 := by omega
      have hiI0 : (0 : Int) ≤ (i : Int) := by omega
      cases l with
      | nil =>
        have he : uintP l0 = .error 3 := by rw [← hgo, uintGo]
        have HE := Lib.hid he
        have HI := Lib.hid hi10
        clear hgo hn he hll hi9 hi10
        rcases (by omega : i = 0 ∨ (0 < i ∧ i ≠ 9) ∨ i = 9) with rfl | ⟨h0, h9⟩ | rfl
        · go_wp2_with fail
          refine (next_nil p hS).mono ?_
          rintro r w2 ⟨rfl, hS2⟩
          obtain ⟨c2, -⟩ := isRd_cell_er hS2
          clear c1 hS
          go_wp2_with fail
          exact ⟨⟨1, rfl, by omega, .inr ⟨_, 3, rfl, HE.out, hS2⟩⟩, by simp [intOf]⟩
        · have b1 : ((i : Int) == 9) = false := by simp; omega
          clear h9
          go_wp2_with fail
          refine (next_nil p hS).mono ?_
          rintro r w2 ⟨rfl, hS2⟩
          obtain ⟨c2, -⟩ := isRd_cell_er hS2
          clear c1 hS
          go_wp2_with fail
          refine (fail_er p 3 2 hS2).mono ?_
          rintro r w3 ⟨rfl, hS3⟩
          obtain ⟨c3, -⟩ := isRd_cell_er hS3
          clear c2 hS2
          go_wp2_with fail
          exact ⟨⟨i + 1, rfl, by have := HI.out; omega, .inr ⟨_, 3, rfl, HE.out, hS3⟩⟩, by simp [intOf]; omega⟩
        · go_wp2_with fail
          refine (next_nil p hS).mono ?_
          rintro r w2 ⟨rfl, hS2⟩
          obtain ⟨c2, -⟩ := isRd_cell_er hS2
          clear c1 hS
          go_wp2_with fail
          refine (fail_er p 3 2 hS2).mono ?_
          rintro r w3 ⟨rfl, hS3⟩
          obtain ⟨c3, -⟩ := isRd_cell_er hS3
          clear c2 hS2
          go_wp2_with fail
          exact ⟨⟨10, rfl, by omega, .inr ⟨_, 3, rfl, HE.out, hS3⟩⟩, by simp [intOf]⟩
      | cons x l =>
        have hxl : l.length ≤ 1073742900 := by simp at hll; omega
        obtain ⟨m, hm⟩ : ∃ m, m = x.toNat := ⟨_, rfl⟩
        have hm2 : m < 256 := by rw [hm]; exact x.toNat_lt
        have hnx := fun w0 (h0 : Sat W w0 (sep (isRd 118 p (.ok (x :: l))) A)) => next_ok p x l h0 hxl
        rw [← hm] at hnx
        have hmI : (m : Int) < 256 := by omega
        by_cases hbad : (i = 9 ∧ 1 < m) ∨ (0 < i ∧ m = 0)
        · have he : uintP l0 = .error 2 := by rw [← hgo]; exact uintGo_bad _ _ _ _ (by rw [← hm]; exact hbad)
          have HE := Lib.hid he
          have HI := Lib.hid hi9
          have HNX := Lib.hid hnx
          clear hgo hn he hll hi9 hi10 hnx hm hxl hm2 hmI
          rcases hbad with ⟨rfl, h1⟩ | ⟨h1, rfl⟩
          · go_wp2_with fail
            refine (HNX.out _ hS).mono ?_
            rintro r w2 ⟨rfl, hS2⟩
            clear c1 hS
            go_wp2_with fail
            refine (fail_ok p l 2 (by omega) hS2).mono ?_
            rintro r w3 ⟨rfl, hS3⟩
            obtain ⟨c3, -⟩ := isRd_cell_er hS3
            clear hS2
            cases hs : decide ((m : Int) < 128)
            all_goals
              go_wp2_with fail
              exact ⟨⟨10, rfl, by omega, .inr ⟨_, 2, rfl, HE.out, hS3⟩⟩, by simp [intOf]⟩
          · by_cases h9 : i = 9
            · subst h9
              go_wp2_with fail
              refine (HNX.out _ hS).mono ?_
              rintro r w2 ⟨rfl, hS2⟩
              clear c1 hS
              go_wp2_with fail
              refine (fail_ok p l 2 (by omega) hS2).mono ?_
              rintro r w3 ⟨rfl, hS3⟩
              obtain ⟨c3, -⟩ := isRd_cell_er hS3
              clear hS2
              go_wp2_with fail
              exact ⟨⟨10, rfl, by omega, .inr ⟨_, 2, rfl, HE.out, hS3⟩⟩, by simp [intOf]⟩
            · have b1 : ((i : Int) == 9) = false := by simp; omega
              clear h9
              go_wp2_with fail
              refine (HNX.out _ hS).mono ?_
              rintro r w2 ⟨rfl, hS2⟩
              clear c1 hS
              go_wp2_with fail
              refine (fail_ok p l 2 (by omega) hS2).mono ?_
              rintro r w3 ⟨rfl, hS3⟩
              obtain ⟨c3, -⟩ := isRd_cell_er hS3
              clear hS2
              go_wp2_with fail
              exact ⟨⟨i + 1, rfl, by have := HI.out; omega, .inr ⟨_, 2, rfl, HE.out, hS3⟩⟩, by simp [intOf]; omega⟩
        · obtain ⟨k, hk⟩ : ∃ k, k = m % 128 := ⟨_, rfl⟩
          have hk128 : k < 128 := by omega
          have h9k : i = 9 → k ≤ 1 := fun e => by omega
          obtain ⟨hor, hNlt⟩ := or_var n k i hn hk128 hi9 h9k
          obtain ⟨N, hN⟩ : ∃ N, N = n + k * 128 ^ i := ⟨_, rfl⟩
          rw [← hN] at hor hNlt
          have hA : bits .andNot .u8 (m : Int) 128 = (k : Int) := by rw [hm, andNot128, hk, hm]
          have hW : IntKind.u64.wrap (k : Int) = (k : Int) := wraps_u64 _ (by omega) (by omega)
          rw [hW] at hor
          have hgood := hbad
          rw [hm] at hgood
          have hend := uintGo_end i n x l hgood
          have hon := uintGo_on i n x l hgood
          rw [hgo, ← hm] at hend hon
          have HEND := Lib.hid hend
          have HON := Lib.hid hon
          have HNX := Lib.hid hnx
          have HNv := Lib.hid hN
          have HK := Lib.hid hk
          have HXL := Lib.hid hxl
          have HNN := Lib.hid hn
          have HI := Lib.hid hi9
          have HM2 := Lib.hid hm2
          have hbad2 : (i = 9 → m ≤ 1) ∧ (0 < i → m ≠ 0) := ⟨fun e => by omega, fun e => by omega⟩
          have HB2 := Lib.hid hbad2
          clear hgood hend hon hgo hn hll hi9 hi10 hnx hm hxl hm2 hmI hbad h9k hk128 hNlt hk hbad2 hN
          -- the end of the number
          have ret : m < 128 → ∀ w3, Sat W w3 (sep (isRd 118 p (.ok l)) A) → (Ending.returned (.int .u64 (N : Nat)) = Ending.returned (.int .u64 ((stU (.ok l0)).1 : Nat)) ∧ Sat W w3 (sep (isRd 118 p (stU (.ok l0)).2) A)) := fun hs w3 h3 => by
            have hu := HEND.out hs
            have e1 : stU (.ok l0) = (N, .ok l) := by
              unfold stU; dsimp only; rw [hu]
              rw [HNv.out, HK.out, Nat.mod_eq_of_lt hs]
            rw [e1]; exact ⟨rfl, h3⟩
          have onw : ¬ m < 128 → ∀ w3, Sat W w3 (sep (isRd 118 p (.ok l)) A) → URel W A 118 p l0 (.int .u64 (N : Nat)) (.int .i64 ((i + 1 : Nat) : Int)) w3 := fun hs w3 h3 => by
            have h9 : i ≠ 9 := fun e => by have := HB2.out.1 e; omega
            have hk2 : k = m - 128 := by rw [HK.out]; have := HM2.out; omega
            refine ⟨i + 1, rfl, by have := HI.out; omega, .inl ⟨N, l, rfl, by have := HI.out; omega, ?_, ?_, HXL.out, h3⟩⟩
            · rw [HNv.out, hk2]; exact uint_step n m i HNN.out (by omega) HM2.out
            · rw [HON.out hs, HNv.out, hk2]
          have RET := Lib.hid ret
          have ONW := Lib.hid onw
          clear ret onw
          by_cases h0 : i = 0
          · subst h0
            have hor0 : bits .or .u64 (n : Int) (k : Int) = (N : Int) := by
              have := hor
              simp only [Nat.mul_zero, Int.pow_zero, Int.mul_one, hW] at this
              exact this
            clear hor
            cases hs : decide ((m : Int) < 128)
            · go_wp2_with fail
              refine (HNX.out _ hS).mono ?_
              rintro r w2 ⟨rfl, hS2⟩
              have c2 := isRd_cell_ok hS2
              clear c1 hS
              go_wp2_with fail
              exact ⟨ONW.out (by have := hs; simp at this; omega) _ hS2, by simp [intOf]⟩
            · go_wp2_with fail
              refine (HNX.out _ hS).mono ?_
              rintro r w2 ⟨rfl, hS2⟩
              have c2 := isRd_cell_ok hS2
              clear c1 hS
              go_wp2_with fail
              go_ret
              exact RET.out (by have := hs; simp at this; omega) _ hS2
          · have hi0 : 0 < i := by omega
            have hm0 : m ≠ 0 := HB2.out.2 hi0
            have bm0 : ((m : Int) == 0) = false := by simp; omega
            have hb9 : ((i : Int) == 9) = false ∨ (((i : Int) == 9) = true ∧ decide ((1 : Int) < (m : Int)) = false) := by
              by_cases h9 : i = 9
              · exact .inr ⟨by simp [h9], by have := HB2.out.1 h9; simp; omega⟩
              · exact .inl (by simp; omega)
            clear h0 hm0
            rcases hb9 with b9 | ⟨b9, b1⟩
            all_goals
              cases hs : decide ((m : Int) < 128)
              · go_wp2_with fail
                refine (HNX.out _ hS).mono ?_
                rintro r w2 ⟨rfl, hS2⟩
                have c2 := isRd_cell_ok hS2
                clear c1 hS
                go_wp2_with fail
                exact ⟨ONW.out (by have := hs; simp at this; omega) _ hS2, by simp [intOf]; omega⟩
              · go_wp2_with fail
                refine (HNX.out _ hS).mono ?_
                rintro r w2 ⟨rfl, hS2⟩
                have c2 := isRd_cell_ok hS2
                clear c1 hS
                go_wp2_with fail
                go_ret
                exact RET.out (by have := hs; simp at this; omega) _ hS2
    · obtain ⟨c1, he⟩ := isRd_cell_er hS
      have b1 : (e == 0) = false := by simp; omega
      have HG := Lib.hid hgo
      clear hgo he
      go_wp2_with fail
      go_ret
      have e1 : stU (.ok l0) = (0, .error e) := by unfold stU; dsimp only; rw [HG.out]
      rw [e1]
      exact ⟨rfl, hS⟩
end Go.Proofs.YtdaknmcmjnbfeaaGreat
/- Package wire: the reader's Uint at an error, Int, End, Raw. -/
namespace Go.Proofs.YtdaknmcmjnbfeaaGreat
open Go.RowKit PA
def RSt.small : RSt → Prop
  | .ok l => l.length ≤ 1073742900
  | .error _ => True
theorem rduint_spec {W w : World} {A : Assn} (p : Nat) (st : RSt) (h : Sat W w (sep (isRd 118 p st) A)) (hl : RSt.small st) :
    Calls Tryz.prog 77 #[.pointer (some ⟨p, 0, none⟩)] w fun r w' => r = .returned (.int .u64 ((stU st).1 : Nat)) ∧ Sat W w' (sep (isRd 118 p (stU st).2) A) := by
  cases st with
  | ok l => exact rduint_ok p l h hl
  | error e =>
    obtain ⟨c1, he⟩ := isRd_cell_er h
    have b1 : (e == 0) = false := by simp; omega
    clear he hl
    go_enter Tryz.func77, Tryz.ntmps77
    go_wp2_with fail
    go_loop [3, 4] (fun _ iv => iv = .int .i64 0) (fun _ _ => 0)
    case atStart => exact rfl
    case round =>
      obtain rfl := hrel
      go_wp2_with fail
      go_ret
      exact ⟨rfl, h⟩
theorem stU_small {st : RSt} (h : RSt.small st) : RSt.small (stU st).2 := by
  cases st with
  | error e => exact h
  | ok l =>
    unfold stU; dsimp only
    cases hu : uintP l with
    | error e => trivial
    | ok x =>
      obtain ⟨n, l'⟩ := x
      obtain ⟨-, k, e⟩ := uintGo_lt l 0 0 (by omega) (by decide) n l' hu
      show l'.length ≤ _
      have : l.length ≤ 1073742900 := h
      rw [e, List.length_drop]; omega
theorem rdint_spec {W w : World} {A : Assn} (p : Nat) (st : RSt) (h : Sat W w (sep (isRd 118 p st) A)) (hl : RSt.small st) :
    Calls Tryz.prog 79 #[.pointer (some ⟨p, 0, none⟩)] w fun r w' => r = .returned (.int .i64 (stI st).1) ∧ Sat W w' (sep (isRd 118 p (stI st).2) A) := by
  have HU := Lib.hid (rduint_spec p st h hl)
  have HZ := Lib.hid (stU_lt st)
  obtain ⟨z, hz⟩ : ∃ z, z = (stU st).1 := ⟨_, rfl⟩
  have e1 : stI st = (unz z, (stU st).2) := by rw [hz]; rfl
  rw [← hz] at HU HZ
  have HE := Lib.hid e1
  clear e1 h hl hz
  go_enter Tryz.func79, Tryz.ntmps79
  go_wp2_with fail
  refine HU.out.mono ?_
  rintro r w2 ⟨rfl, hS⟩
  go_wp2_with fail
  refine (unzigzag_spec z _ HZ.out).mono ?_
  rintro r w3 ⟨rfl, rfl⟩
  go_wp2_with fail
  go_ret
  rw [HE.out]
  exact ⟨rfl, hS⟩
theorem isRd_slice {W w : World} {A : Assn} {T p : Nat} {st : RSt} (h : Sat W w (sep (isRd T p st) A)) : ∃ a n c, w.cell? ⟨p, 0, none⟩ = some (.slice a n c) ∧ (∀ l, st = .ok l → n = l.length) := by
  cases st with
  | error e =>
    obtain ⟨-, a, n, c, h1⟩ := isRd_er h
    exact ⟨a, n, c, h1.cell 0, fun l e => (by cases e)⟩
  | ok l =>
    obtain ⟨a, c, -, h1⟩ := isRd_ok h
    exact ⟨a, _, c, h1.cell 0, fun l' e => by cases e; rfl⟩
set_option maxHeartbeats 1000000 in
theorem list_er {W w : World} {A : Assn} (p : Nat) (st : RSt) (h : Sat W w (sep (isRd 118 p st) A)) (hl : RSt.small st) (e : Int) (he : stU st = (0, .error e)) (f : Value) :
    Calls Tryz.prog 92 #[.pointer (some ⟨p, 0, none⟩), f] w fun r w' => r = .returned (.slice none 0 0) ∧ Sat W w' (sep (isRd 118 p (.error e)) A) := by
  have hu := rduint_spec p st h hl
  rw [he] at hu
  have HU := Lib.hid hu
  clear hu he h hl
  go_enter Tryz.func92, Tryz.ntmps92
  go_wp2_with fail
  refine HU.out.mono ?_
  rintro r w2 ⟨rfl, hS⟩
  obtain ⟨c1, he⟩ := isRd_cell_er hS
  obtain ⟨a, n, c, c0, -⟩ := isRd_slice hS
  have b1 : (e == 0) = false := by simp; omega
  have b2 : (e != 0) = true := by simp; omega
  have e0 : ((0 : Nat) : Int) = 0 := rfl
  have hw0 : 0 ≤ IntKind.u64.wrap (n : Int) := by rw [IntKind.wrap_u64]; omega
  have hw1 : decide (IntKind.u64.wrap (n : Int) < 0) = false := by simp; omega
  have hw2 : ¬ IntKind.u64.wrap (n : Int) < 0 := by omega
  clear he hw0 hw2
  go_wp2_with fail
  go_loop [7] (fun iv => iv = .int .u64 0) (fun _ => 0)
  case atStart => exact rfl
  case round =>
    obtain rfl := hrel
    go_wp2_with fail
    go_ret
    exact ⟨rfl, hS⟩
end Go.Proofs.YtdaknmcmjnbfeaaGreat
