/- DiskHash, the walk. -/
import Derived.Test.YtbniekblkbdidaaD10
import Derived.Test.YtbniekblkbdidaaD11
import Derived.Test.YtbniekblkbdidaaDt
namespace Go.Proofs.Ytbniekblkbdidaa
open Go.RowKit PA
def oneD (room n : Nat) (bs : List UInt8) (d : Nat) : DSt := ⟨room, dset noFiles n (bs, d), false, none⟩
theorem oneD_read {room n : Nat} {bs : List UInt8} {d : Nat} (hn : n < 64) : readD (oneD room n bs d) (n : Int) = (bs, 0) := by
  rw [readD, if_neg (by omega)]
  simp [oneD, dset]
theorem oneD_sync {room n : Nat} {bs : List UInt8} {d : Nat} : syncD (oneD room n bs d) = (0, oneD room n bs bs.length) := by
  have h1 : (oneD room n bs d).step = (true, oneD room n bs d) := rfl
  have h2 : (oneD room n bs d).hard = oneD room n bs bs.length := by
    unfold DSt.hard oneD
    dsimp only
    rw [hard_one]
  rw [syncD, h1, h2]; rfl
theorem oneD_crash {room n : Nat} {bs : List UInt8} {d : Nat} (hn : n < 64) (hd : d ≤ bs.length) (keep : List Int) (flip : Int) :
    crashD (oneD room n bs d) keep flip = oneD room n (crash1 bs d keep flip) (crash1 bs d keep flip).length := by
  rw [crash_one hn rfl hd]; rfl
theorem crash1_len (bs : List UInt8) (d : Nat) (keep : List Int) (flip : Int) (hd : d ≤ bs.length) : (crash1 bs d keep flip).length = d + keptD (bs, d) keep 0 := by
  have h := keptD_le (bs, d) keep 0
  dsimp only at h
  unfold crash1
  split
  · rw [List.length_modify, List.length_take]; omega
  · rw [List.length_take]; omega
theorem hash_flip (label O : List UInt8) (d : Nat) (flip : Int) (hn : O.length ≤ 8) (h0 : 0 < O.length) :
    crash1 O O.length [8] flip = O ∧ (flip < 0 → crash1 O 0 [8] flip = O) ∧ (0 ≤ flip → (crash1 O 0 [8] flip).length = O.length ∧ bytesN label (crash1 O 0 [8] flip) ≠ bytesN label O) := by
  have k1 : keptD (O, O.length) [8] 0 = 0 := by simp [keptD] <;> omega
  have k2 : keptD (O, 0) [8] 0 = O.length := by simp [keptD] <;> omega
  refine ⟨?_, fun h => ?_, fun h => ⟨?_, ?_⟩⟩
  · rw [crash1, k1, if_neg (by omega)]; simp
  · rw [crash1, k2, if_neg (by omega)]; simp
  · rw [crash1_len _ _ _ _ (by omega), k2]; omega
  · rw [crash1, k2, if_pos ⟨h, h0⟩]
    have hm := Nat.mod_lt flip.toNat (show 0 < 8 * O.length by omega)
    have hj : 0 + flip.toNat % (8 * O.length) / 8 < O.length := by omega
    simp only [Nat.zero_add] at hj ⊢
    rw [List.take_of_length_le (Nat.le_refl _)]
    rw [modify_set _ _ hj]
    exact bytesN_set _ _ _ _ hj (by omega) (flipB_ne _ _)
set_option maxRecDepth 100000 in
set_option maxHeartbeats 8000000 in
theorem diskHash_walk (a0 : Option Addr) (len0 cap0 : Nat) (z0 : List Int) (a1 : Int) (sy : Bool) (w : World) (w0 : IsArgB w a0 len0 cap0 z0) (w1 : (Lit.int .i64 a1).wf = true) :
    Calls Try.prog 9 #[.slice a0 len0 cap0, .int .i64 a1, .bool sy] w fun e w' => e = .returned (.bool true) ∧ Below w.heap.size w w' := by
  obtain ⟨l0, hl0, hb0⟩ := argB w0
  have h0 := Sat.startKn w
  have hnew := dnew_ok 100 h0 (by omega)
  have HN := Lib.hid hnew
  have HB := Lib.hid hb0
  have HA1 := Lib.hid (i64_of_wf w1)
  clear hnew h0 hb0 hl0 w0 w1
  go_enter Try.func9, Try.ntmps9
  go_wp2_with fail
  refine HN.out.mono ?_
  rintro e w1 ⟨p, rfl, h1⟩
  clear HN
  have hfew := few_spec _ l0 7 h1.p1 HB.out (by omega)
  have HF := Lib.hid hfew
  clear h1 hfew
  go_wp2_with fail
  refine HF.out.mono ?_
  rintro e w2 ⟨fa, fc, rfl, h2⟩
  obtain ⟨t7, ht7⟩ : ∃ t7, t7 = l0.take 7 := ⟨_, rfl⟩
  rw [← ht7] at h2 ⊢
  have ht : t7.length ≤ 7 := by rw [ht7, List.length_take]; omega
  obtain ⟨n7, hn7⟩ : ∃ n7, n7 = t7.length := ⟨_, rfl⟩
  obtain ⟨vs7, hvs7⟩ : ∃ vs7, vs7 = t7.map bv := ⟨_, rfl⟩
  rw [← hn7, ← hvs7] at h2
  rw [← hn7] at ht ⊢
  have h3 := (h2.alloc (.cells #[.int .u8 1] 5)).p1
  have HT := Lib.hid (And.intro ht7 (And.intro hn7 hvs7))
  clear HF h2 ht7 hn7 hvs7
  go_wp2_with (at_builtin; refine wpl_append_osl rfl (.tmp 23) (.tmp 24) 27 rfl 5 1 1 (.int .u8 0) Try.underlying27 infoU8d rfl rfl h3 rfl [.int .u8 1] rfl (by simp) (by intro b hb; cases hb; exact new_src _ [_] _) (by simp [Value.oneCell']) (by omega) (by unfold maxLen; omega) ?_)
  intro a4 c4 w4 h4
  obtain ⟨O, hO⟩ : ∃ O, O = t7 ++ [1] := ⟨_, rfl⟩
  have hOm : vs7 ++ [.int .u8 1] = O.map bv := by rw [hO, List.map_append, HT.out.2.2]; rfl
  rw [hOm] at h4
  have hOl : O.length = n7 + 1 := by rw [hO, List.length_append, HT.out.2.1]; rfl
  obtain ⟨I, hI, hr, h5⟩ := (show Sat w w4 (sep (rBytes.is [.slice a4 (n7 + 1) c4] O) (sep (kn (wm w)) (sep (isDisk p (newD 100)) emp))) from by
    have := h4.bytes_of_osl.2
    exact (show Sat w w4 (sep (blk _ _) (sep (rBytes.is [.slice a4 (n7 + 1) c4] O) (sep (kn (wm w)) (sep (isDisk p (newD 100)) emp)))) from this.p1).drop).learn
  have ha := dappend_spec p (newD 100) 0 _ O h5.p1 hr (by omega)
  have happ : appendD (newD 100) 0 O = (0, oneD 100 0 O 0) := by
    rw [newD_app (by omega), if_neg (by omega)]; rfl
  rw [happ] at ha
  obtain ⟨n, hn⟩ : ∃ n, n = n7 + 1 := ⟨_, rfl⟩
  rw [← hn] at hr ha hOl ⊢
  have hn8 : n ≤ 8 := by omega
  have hn0 : 0 < n := by omega
  have HA := Lib.hid ha
  have HR := Lib.hid hr
  have HO := Lib.hid (And.intro hOl (And.intro hn8 hn0))
  clear h3 h4 h5 ha hr hO hOm hOl happ hn ht HT
  go_wp2_with fail
  refine HA.out.mono ?_
  rintro e w5 ⟨rfl, h6⟩
  have H6 := Lib.hid h6
  clear HA h6
  go_upto_if 29 with (fail)
  go_cut [] (fun wx => Sat w wx (sep (isDisk p (oneD 100 0 O (if sy then n else 0))) (sep (kn I) emp)))
  case first =>
    cases sy with
    | true =>
      have hs := dsync_spec p _ H6.out
      rw [oneD_sync, HO.out.1] at hs
      have HS := Lib.hid hs
      clear hs
      go_wp2_with fail
      refine HS.out.mono ?_
      rintro e w6 ⟨rfl, h7⟩
      have H7 := Lib.hid h7
      clear h7
      go_wp2_with fail
      go_meet
      exact H7.out
    | false =>
      go_wp2_with fail
      go_meet
      exact H6.out
  case rest =>
    have h7 := hcut
    clear H6 hcut
    obtain ⟨J, hJ, hri, h8⟩ := litI h7.p1 [8] 3 (by decide)
    have hcr := dcrash_spec p _ _ _ _ [8] a1 h8.p1 hri (by intro x hx; simp at hx; subst hx; exact ⟨by omega, by omega⟩) HA1.out
    rw [oneD_crash (by omega) (by rw [HO.out.1]; split <;> omega)] at hcr
    obtain ⟨X, hX⟩ : ∃ X, X = crash1 O (if sy then n else 0) [8] a1 := ⟨_, rfl⟩
    rw [← hX] at hcr
    have HCR := Lib.hid hcr
    have HX := Lib.hid hX
    have HJ := Lib.hid hJ
    clear h7 h8 hri hcr hX hJ
    go_wp2_with fail
    refine HCR.out.mono ?_
    rintro e w7 ⟨rfl, h9⟩
    have hrd := dread_spec p _ 0 h9
    have e0 : readD (oneD 100 0 X X.length) 0 = (X, 0) := oneD_read (by omega)
    rw [e0] at hrd
    dsimp only at hrd
    have hf := hash_flip [102] O 0 a1 (by rw [HO.out.1]; exact HO.out.2.1) (by rw [HO.out.1]; exact HO.out.2.2)
    have hXl : X.length = n := by
      rw [HX.out]
      cases sy with
      | true => simp only [if_true]; rw [← HO.out.1, hf.1]
      | false =>
        simp only [Bool.false_eq_true, if_false]
        rcases Int.lt_or_le a1 0 with h | h
        · rw [hf.2.1 h, HO.out.1]
        · rw [(hf.2.2 h).1, HO.out.1]
    rw [hXl] at hrd
    obtain ⟨hx, hhx⟩ : ∃ hx, hx = bytesN [102] X := ⟨_, rfl⟩
    obtain ⟨ho, hho⟩ : ∃ ho, ho = bytesN [102] O := ⟨_, rfl⟩
    have hcase : (hx = ho ∧ (sy = true ∨ a1 < 0)) ∨ (hx ≠ ho ∧ sy = false ∧ 0 ≤ a1) := by
      rw [hhx, hho, HX.out]
      cases sy with
      | true => exact .inl ⟨by simp only [if_true]; rw [← HO.out.1, hf.1], .inl rfl⟩
      | false =>
        simp only [Bool.false_eq_true, if_false]
        rcases Int.lt_or_le a1 0 with h | h
        · exact .inl ⟨by rw [hf.2.1 h], .inr h⟩
        · exact .inr ⟨(hf.2.2 h).2, trivial, h⟩
    have HRD := Lib.hid hrd
    have HC := Lib.hid hcase
    have HH := Lib.hid (And.intro hhx hho)
    have HXL := Lib.hid hXl
    clear HCR h9 hrd e0 hf hXl hhx hho hcase
    go_wp2_with fail
    refine HRD.out.mono ?_
    rintro e w8 ⟨xa, xc, rfl, h10⟩
    obtain ⟨K, hK, hrx, h11⟩ := (show Sat w w8 (sep (rBytes.is [.slice xa n xc] X) (sep (kn J) (sep (isDisk p (oneD 100 0 X n)) emp))) from by
      have := h10.bytes_of_osl.2
      simpa only [sep_comm, sep_lcomm, sep_assoc] using this).learn
    have hh1 := hbytes_any ⟨#[102]⟩ _ X h11 hrx (by decide) (by rw [HXL.out]; omega)
    have e1 : bytesN (⟨#[102]⟩ : ByteArray).data.toList X = hx := HH.out.1.symm
    rw [e1] at hh1
    have HH1 := Lib.hid hh1
    have HK := Lib.hid hK
    clear HRD h10 h11 hrx hh1 e1 hK
    go_wp2_with fail
    refine HH1.out.mono ?_
    rintro e w9 ⟨rfl, h12⟩
    have hh2 := hbytes_any ⟨#[102]⟩ _ O h12 (rBytes.mono (Mem.le_trans HJ.out HK.out) HR.out) (by decide) (by rw [HO.out.1]; omega)
    have e1 : bytesN (⟨#[102]⟩ : ByteArray).data.toList O = ho := HH.out.2.symm
    rw [e1] at hh2
    have HH2 := Lib.hid hh2
    clear HH1 h12 hh2 e1 HH
    go_wp2_with fail
    refine HH2.out.mono ?_
    rintro e w10 ⟨rfl, h13⟩
    have H13 := Lib.hid h13
    clear HH2 h13
    rcases HC.out with ⟨e1, e2⟩ | ⟨e1, rfl, e2⟩
    · subst e1
      cases sy with
      | true =>
        clear e2
        go_wp2_with fail
        refine (lives29_spec H13.out).mono ?_
        rintro e w11 ⟨rfl, h14⟩
        go_wp2_with fail
        go_ret
        exact ⟨rfl, h14.below⟩
      | false =>
        have e3 : a1 < 0 := by simpa using e2
        clear e2
        go_wp2_with fail
        refine (lives29_spec H13.out).mono ?_
        rintro e w11 ⟨rfl, h14⟩
        go_wp2_with fail
        go_ret
        exact ⟨rfl, h14.below⟩
    · have e3 : decide (a1 < 0) = false := by simp; omega
      have e4 : ((hx : Int) == (ho : Int)) = false := by simp; omega
      clear e1 e2
      go_wp2_with fail
      refine (lives29_spec H13.out).mono ?_
      rintro e w11 ⟨rfl, h14⟩
      go_wp2_with fail
      go_ret
      exact ⟨rfl, h14.below⟩
end Go.Proofs.Ytbniekblkbdidaa
