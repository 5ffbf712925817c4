/- journal.record. -/
import Derived.Test.YtdaknmcmjnbfeaaGreatGJournalRuns38
namespace Go.Proofs.YtdaknmcmjnbfeaaGreat
open Go.RowKit PA
theorem stU_le (l : List UInt8) : (stR (.ok l)).1.length ≤ l.length := by
  rcases stU_cases (.ok l) with ⟨e, he⟩ | ⟨n, l', he⟩
  · rw [stR_er he]; exact Nat.zero_le _
  · have hd : l'.length ≤ l.length := by
      unfold stU at he; dsimp only at he
      cases hu : uintP l with
      | error e => rw [hu] at he; simp at he
      | ok x =>
        obtain ⟨m, l2⟩ := x
        rw [hu] at he; simp at he
        obtain ⟨-, k, e⟩ := uintGo_lt l 0 0 (by omega) (by decide) m l2 hu
        rw [← he.2, e, List.length_drop]; omega
    rw [stR_ok he]
    split
    · exact Nat.zero_le _
    · show (l'.take n).length ≤ _
      rw [List.length_take]; omega
set_option maxHeartbeats 2000000 in
theorem record_spec {W w : World} {A : Assn} {I : Mem} (v : Value) (l : List UInt8) (h : Sat W w (sep (kn I) A)) (hv : rBytes.rel I [v] l) (hl : l.length ≤ 1000200) :
    Calls Tryz.prog 61 #[v] w fun e w' => ∃ u, e = .returned u ∧ Sat W w' (sep (rBytes.is [u] (recJ l)) (sep (kn I) A)) := by
  obtain ⟨a, c, rfl, hsw, -⟩ := bytes_rel.1 hv
  have hlc := hsw.1
  have hcap := hsw.2.1
  unfold maxLen at hcap
  obtain ⟨n, hn⟩ : ∃ n, n = l.length := ⟨_, rfl⟩
  rw [← hn] at hlc hl hv ⊢
  obtain ⟨k1, hk1⟩ : ∃ k1, k1 = min n 10 := ⟨_, rfl⟩
  have hr1 := rel_take k1 hn (by omega) hv
  have ht1 : l.take k1 = l.take 10 := by
    rw [hk1, hn]
    by_cases h10 : l.length ≤ 10
    · rw [Nat.min_eq_left h10, List.take_length, List.take_of_length_le h10]
    · rw [Nat.min_eq_right (by omega)]
  rw [ht1] at hr1
  have hk1c : k1 ≤ c := by omega
  have hr2 : Sat W w (sep (rBytes.is [.slice a k1 c] (l.take 10)) (sep (kn I) A)) := h.tell hr1
  have HR1 := Lib.hid hr2
  have HN := Lib.hid hn
  have HV := Lib.hid hv
  have HL := Lib.hid hl
  have HK1 := Lib.hid hk1
  clear hsw hn hk1 hr1 hr2 ht1 hv h
  have hcs : (n : Int) ≤ 10 ∧ n = k1 ∨ 10 < (n : Int) ∧ k1 = 10 := by have := HK1.out; omega
  clear hcap
  go_enter Tryz.func61, Tryz.ntmps61
  rcases hcs with ⟨hc1, rfl⟩ | ⟨hc1, rfl⟩
  all_goals
    go_wp2_with fail
    refine (read_spec _ _ HR1.out (by rw [List.length_take]; omega)).mono ?_
    rintro e w2 ⟨p1, rfl, hS2⟩
    clear HR1
    go_wp2_with fail
    refine (rduint_spec p1 _ hS2 (by show (l.take 10).length ≤ _; rw [List.length_take]; omega)).mono ?_
    rintro e w3 ⟨rfl, hS3⟩
    have h3 : Sat W w3 (sep (kn I) A) := hS3.drop.drop
    obtain ⟨hd, hhd⟩ : ∃ hd, hd = headJ l := ⟨_, rfl⟩
    have hhd2 : (stU (.ok (l.take 10))).1 = hd := by rw [hhd, headJ]
    rw [hhd2]
    have HHD := Lib.hid hhd
    clear hS2 hS3 hhd hhd2
    obtain ⟨mm, hmm⟩ : ∃ mm, mm = min hd n := ⟨_, rfl⟩
    obtain ⟨k2, hk2⟩ : ∃ k2, k2 = min n (10 + mm) := ⟨_, rfl⟩
    have HK2 := Lib.hid hk2
    have HMM := Lib.hid hmm
    have hc2 : (hd : Int) ≤ (n : Int) ∧ mm = hd ∨ (n : Int) < (hd : Int) ∧ mm = n := by omega
    have hc3 : (n : Int) ≤ 10 + (mm : Int) ∧ k2 = n ∨ 10 + (mm : Int) < (n : Int) ∧ k2 = 10 + mm := by omega
    have hw1 : IntKind.u64.wrap (n : Int) = (n : Nat) := wraps_u64 _ (by omega) (by omega)
    have hw2 : IntKind.u64.wrap (10 + (mm : Int)) = ((10 + mm : Nat) : Int) := by rw [show (10 : Int) + (mm : Int) = ((10 + mm : Nat) : Int) by omega]; exact wraps_u64 _ (by omega) (by omega)
    clear hc1 hk1c hmm hk2
    go_upto_region 3 with (fail)
    have hkn : k2 ≤ n := by rw [HK2.out]; exact Nat.min_le_left _ _
    have hr := rel_take k2 HN.out hkn HV.out
    have hct : l.take k2 = cutJ l := by
      rw [cutJ, ← HHD.out, HK2.out, HMM.out, ← HN.out]
      by_cases hq : n ≤ 10 + min hd n
      · rw [Nat.min_eq_left hq, List.take_of_length_le (by rw [← HN.out]; omega), List.take_of_length_le (by rw [← HN.out]; omega)]
      · rw [Nat.min_eq_right (by omega)]
    rw [hct] at hr
    have h4 : Sat W w3 (sep (rBytes.is [.slice a k2 c] (cutJ l)) (sep (kn I) A)) := h3.tell hr
    have hcl : (cutJ l).length ≤ 1000200 := by rw [← hct, List.length_take]; omega
    have HR4 := Lib.hid h4
    have HCT := Lib.hid hcl
    have hk2c : k2 ≤ c := by omega
    clear h3 hr hct h4 hcl hkn
    rcases hc2 with ⟨hc2, rfl⟩ | ⟨hc2, rfl⟩ <;> rcases hc3 with ⟨hc3, rfl⟩ | ⟨hc3, rfl⟩
    all_goals
      go_wp2_with fail
      refine (read_spec _ _ HR4.out (by have := HCT.out; omega)).mono ?_
      rintro e w5 ⟨p2, rfl, hS5⟩
      clear HR4
      go_wp2_with fail
      refine (rdraw_spec p2 _ hS5 (by show (cutJ l).length ≤ _; have := HCT.out; omega)).mono ?_
      rintro e w6 ⟨vc, rfl, hS6⟩
      obtain ⟨cb, hcb⟩ : ∃ cb, cb = (stR (.ok (cutJ l))).1 := ⟨_, rfl⟩
      have hcbl : cb.length ≤ 1000200 := by rw [hcb]; have := stU_le (cutJ l); have := HCT.out; omega
      rw [← hcb] at hS6
      have h6 : Sat W w6 (sep (rBytes.is [vc] cb) (sep (kn I) A)) := by
        have := hS6.p1.drop.p1.drop
        simpa only [sep_comm, sep_lcomm, sep_assoc] using this
      have HCBL := Lib.hid hcbl
      have HCB := Lib.hid hcb
      clear hS5 hS6 hcb hcbl
      go_wp2_with fail
      refine (read_spec vc cb h6 (by have := HCBL.out; omega)).mono ?_
      rintro e w7 ⟨p3, rfl, hS7⟩
      clear h6
      go_wp2_with fail
      refine (rdint_spec p3 _ hS7 (by show cb.length ≤ _; have := HCBL.out; omega)).mono ?_
      rintro e w8 ⟨rfl, hS8⟩
      clear hS7
      go_wp2_with fail
      have hsm : RSt.small (stI (.ok cb)).2 := stU_small (by show cb.length ≤ _; have := HCBL.out; omega)
      refine (rdraw_spec p3 _ hS8 hsm).mono ?_
      rintro e w9 ⟨u, rfl, hS9⟩
      clear hS8 hsm
      go_wp2_with fail
      go_ret
      refine ⟨u, rfl, ?_⟩
      rw [recJ, ← HCB.out]
      have h10 := hS9.p1.drop.p1.drop
      simpa only [sep_comm, sep_lcomm, sep_assoc] using h10
end Go.Proofs.YtdaknmcmjnbfeaaGreat
