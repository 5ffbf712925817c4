/- JournalDurable: what a planned failure leaves (plain), and the walk. -/
import Derived.Test.YtdaknmcmjnbfeaaGJournalDurable46
namespace Go.Proofs.Ytdaknmcmjnbfeaa
open Go.RowKit PA
/-- A failure planned after m steps, i records later: how many went through, how many may be there, the log, the disk. -/
def durJ (m i : Nat) : Nat := min i (m / 2)
def durT (m i : Nat) : Nat := if i ≤ m / 2 then i else m / 2 + 1
def durL (m i : Nat) : LSt := ⟨0, durJ m i, decide (m / 2 < i)⟩
def durD (X : List (List UInt8)) (m i : Nat) : DSt :=
  if i ≤ m / 2 then pl 5000 (one 0 (X.take i)) (some (m - 2 * i)) else torn 5000 (one 0 (X.take (m / 2))) 0 (frameJ (m / 2 : Nat) (X.getD (m / 2) []))
theorem dur_start (X : List (List UInt8)) (m : Nat) : durD X m 0 = armD (hd 5000 (one 0 [])) (m : Int) := by
  rw [durD, if_pos (Nat.zero_le _), List.take_zero]
  have : armD (hd 5000 (one 0 [])) (m : Int) = pl 5000 (one 0 []) (some (m : Int).toNat) := by
    rw [armD, if_neg (by show ¬ false = true; simp), if_pos (by omega)]; rfl
  rw [this, Int.toNat_natCast]
  rfl
theorem dur_step {X : List (List UInt8)} (hX : Few X 6) (m i : Nat) (hi : i < X.length) :
    appendJ (durD X m i) (durL m i) X[i] = (if i < m / 2 then 0 else 19, durD X m (i + 1), durL m (i + 1)) := by
  have hx := hX.each _ (List.getElem_mem hi)
  have hlen : (X.take i).length = i := by rw [List.length_take]; omega
  rcases Nat.lt_trichotomy i (m / 2) with h | h | h
  · have hap := one_append (f := 0) (by omega) (hX.take i) (by omega) X[i] hx (some (m - 2 * i)) (.inr ⟨m - 2 * i - 2, by congr 1; omega⟩)
    rw [hlen, ← List.take_succ_eq_append_getElem hi] at hap
    have e1 : durL m i = ⟨0, i, false⟩ := by rw [durL, durJ, Nat.min_eq_left (by omega), decide_eq_false (by omega)]
    have e2 : durL m (i + 1) = ⟨0, i + 1, false⟩ := by rw [durL, durJ, Nat.min_eq_left (by omega), decide_eq_false (by omega)]
    rw [durD, if_pos (show i ≤ m / 2 by omega), durD, if_pos (show i + 1 ≤ m / 2 by omega), e1, e2, hap, if_pos h]
    have e3 : (some (m - 2 * i)).map (· - 2) = some (m - 2 * (i + 1)) := by rw [Option.map_some]; congr 1
    rw [e3]
  · have hap := one_torn (f := 0) (by omega) (hX.take i) (by omega) X[i] hx (m - 2 * i) (by omega)
    rw [hlen] at hap
    have e1 : durL m i = ⟨0, i, false⟩ := by rw [durL, durJ, Nat.min_eq_left (by omega), decide_eq_false (by omega)]
    have e2 : durL m (i + 1) = ⟨0, i, true⟩ := by rw [durL, durJ, Nat.min_eq_right (by omega), decide_eq_true (by omega), ← h]
    have e3 : X.getD i [] = X[i] := by rw [List.getD_eq_getElem?_getD, List.getElem?_eq_getElem hi]; rfl
    rw [durD, if_pos (show i ≤ m / 2 by omega), durD, if_neg (show ¬ i + 1 ≤ m / 2 by omega), e1, e2, hap, if_neg (by omega), ← h, e3]
  · have e1 : durL m i = ⟨0, m / 2, true⟩ := by rw [durL, durJ, Nat.min_eq_right (by omega), decide_eq_true (by omega)]
    have e2 : durL m (i + 1) = ⟨0, m / 2, true⟩ := by rw [durL, durJ, Nat.min_eq_right (by omega), decide_eq_true (by omega)]
    rw [durD, if_neg (show ¬ i ≤ m / 2 by omega), durD, if_neg (show ¬ i + 1 ≤ m / 2 by omega), e1, e2, append_down _ _ _ _ (by omega), if_neg (by omega)]
/-- What Open finds after a crash that inverts nothing. -/
theorem dur_crash {X : List (List UInt8)} (hX : Few X 6) (m : Nat) (hok : (durD X m X.length).ok) (keep : List Int) :
    ∃ g K, crashD (durD X m X.length) keep (-1) = hd 5000 g ∧ openJ (hd 5000 g) ((0 : Nat) : Int) = (0, hd 5000 (one 0 K), K) ∧ K = X.take K.length ∧ durJ m X.length ≤ K.length ∧ K.length ≤ durT m X.length ∧ Few K 7 ∧ (g 0).length ≤ 1000000 := by
  by_cases h : X.length ≤ m / 2
  · have e : durD X m X.length = pl 5000 (one 0 X) (some (m - 2 * X.length)) := by rw [durD, if_pos h, List.take_length]
    have hfr := hX.frames (by omega)
    rw [e] at hok ⊢
    refine ⟨one 0 X, X, pl_crash _ _ _ hok _ _, one_open (by omega) hX (by omega), List.take_length.symm, ?_, ?_, hX.mono (by omega), by rw [one_at]; omega⟩
    · rw [durJ]; omega
    · rw [durT, if_pos h]; exact Nat.le_refl _
  · obtain ⟨j, hj⟩ : ∃ j, j = m / 2 := ⟨_, rfl⟩
    rw [← hj] at h
    have hjX : j < X.length := by omega
    have e3 : X.getD j [] = X[j] := by rw [List.getD_eq_getElem?_getD, List.getElem?_eq_getElem hjX]; rfl
    have e : durD X m X.length = torn 5000 (one 0 (X.take j)) 0 (frameJ j X[j]) := by rw [durD, ← hj, if_neg h, e3]
    have hT : Few (X.take j) 6 := hX.take j
    have hfr := hT.frames (by omega)
    have hlen : (X.take j).length = j := by rw [List.length_take]; omega
    have hx := hX.each _ (List.getElem_mem hjX)
    have hf2 := frame_few j X[j] (by have := hX.len; omega) hx
    rw [e] at hok ⊢
    obtain ⟨c, hc⟩ := torn_cut 5000 (one 0 (X.take j)) 0 (frameJ j X[j]) keep
    rw [one_at] at hc
    obtain ⟨b, hs1, hs2⟩ := scan_torn (X.take j) X[j] c (by have := hX.len; omega) (by omega) (by rw [hlen]; omega)
    rw [hlen] at hs1 hs2
    obtain ⟨K, hK⟩ : ∃ K, K = if b = true then X.take j ++ [X[j]] else X.take j := ⟨_, rfl⟩
    rw [← hK] at hs1 hs2
    have hKX : K = X.take K.length ∧ j ≤ K.length ∧ K.length ≤ j + 1 := by
      cases b
      · rw [if_neg (by simp)] at hK
        rw [hK, hlen]; exact ⟨rfl, by omega, by omega⟩
      · rw [if_pos rfl, ← List.take_succ_eq_append_getElem hjX] at hK
        have hl : K.length = j + 1 := by rw [hK, List.length_take]; omega
        rw [hl]; exact ⟨hK, by omega, by omega⟩
    refine ⟨_, K, hc, ?_, hKX.1, by rw [durJ, ← hj]; omega, by rw [durT, ← hj, if_neg h]; omega, ?_, ?_⟩
    · rw [hd_open _ _ (by omega), gset_same, hs1]
      dsimp only
      rw [hs2, gset_gset]
      unfold one
      rw [gset_gset]
    · rw [hKX.1]; exact (hX.take _).mono (by omega)
    · rw [gset_same, List.length_append, List.length_take]; omega
theorem sameb_kn {W w : World} {A : Assn} {J : Mem} (v u : Value) (x : List UInt8) (h : Sat W w (sep (kn J) A)) (h1 : rBytes.rel J [v] x) (h2 : rBytes.rel J [u] x) :
    Calls Try.prog 11 #[v, u] w fun e w' => e = .returned (.bool true) ∧ Sat W w' (sep (kn J) A) := by
  have := sameBytes_spec v u x x ((h.tell h2).p1.tell h1).p2.p1
  rw [decide_eq_true rfl] at this
  exact this.mono fun e w' ⟨h1, h2⟩ => ⟨h1, h2.drop.drop⟩
set_option maxRecDepth 100000 in
set_option maxHeartbeats 8000000 in
theorem journalDurable_walk (a0 : Option Addr) (len0 cap0 : Nat) (z0 : List Int) (a1 : Int) (a2 : Int) (a3 : Option Addr) (len3 cap3 : Nat) (z3 : List Int) (w : World)
    (w0 : IsArg w a0 len0 cap0 z0) (w1 : (Lit.int .i64 a1).wf = true) (w2 : (Lit.int .i64 a2).wf = true) (w3 : IsArgB w a3 len3 cap3 z3) :
    Calls Try.prog 7 #[.slice a0 len0 cap0, .int .i64 a1, .int .i64 a2, .slice a3 len3 cap3] w fun e w' => e = .returned (.bool true) ∧ Below w.heap.size w w' := by
  obtain ⟨ns, hns, hr0, h64⟩ := argI w0
  obtain ⟨b, hb, hr3⟩ := argB w3
  have hn1 := i64_of_wf w1
  have HR := Lib.hid (And.intro hr0 (And.intro h64 hr3))
  have HK := Lib.hid (i64_of_wf w2)
  have HF := Lib.hid (fresh_spec 5000 (Sat.startKn w) (by omega))
  have HQ := Lib.hid (fun w' => around_spec a1 13 w' hn1.1 hn1.2 (by omega) (by omega))
  have hq := aroundI_lt a1 13 (by omega)
  obtain ⟨m, hm⟩ : ∃ m : Nat, aroundI a1 13 = (m : Int) := ⟨(aroundI a1 13).toNat, by omega⟩
  rw [hm] at hq HQ
  have hm13 : m < 13 := by omega
  clear w0 w1 w2 w3 hns hr0 h64 hb hr3 hn1 hq hm
  go_enter Try.func7, Try.ntmps7
  go_wp2_with fail
  refine HF.out.mono ?_
  rintro e w2 ⟨p, rfl, h2⟩
  have HOP := Lib.hid (log5_start 0 (by omega) p h2)
  clear HF h2
  go_wp2_with fail
  refine HOP.out.mono ?_
  rintro e w3 ⟨q, ua, uc, rfl, h3⟩
  have H3 := Lib.hid h3
  clear HOP h3
  go_wp2_with fail
  refine (HQ.out w3).mono ?_
  rintro e w' ⟨rfl, rfl⟩
  have HAR := Lib.hid (darm_spec p (hd 5000 (one 0 [])) (m : Int) (show Sat w w3 (sep (isDisk p (hd 5000 (one 0 []))) (sep (isLog q p ⟨0, 0, false⟩) (sep (kn (wm w)) emp))) by simpa only [sep_comm, sep_lcomm, sep_assoc] using H3.out) ⟨by omega, by omega⟩)
  clear HQ H3
  go_wp2_with fail
  refine HAR.out.mono ?_
  rintro e w4 ⟨rfl, h4⟩
  have HRE := Lib.hid (records30_spec _ ns (show Sat w w4 (sep (kn (wm w)) (sep (isLog q p ⟨0, 0, false⟩) (sep (isDisk p (armD (hd 5000 (one 0 [])) (m : Int))) emp))) by simpa only [sep_comm, sep_lcomm, sep_assoc] using h4) HR.out.1 HR.out.2.1)
  clear HAR h4
  go_wp2_with fail
  refine HRE.out.mono ?_
  rintro e w5 ⟨ra, rc, vs0, X, rfl, hxl, hx10, h5⟩
  obtain ⟨nx, hnx⟩ : ∃ nx, nx = X.length := ⟨_, rfl⟩
  have hnx6 : nx ≤ 6 := by omega
  have h6 := h5.slice_of_osl (R := rBytes) (k := 1) rfl
  rw [← hnx] at h6 ⊢
  obtain ⟨I3, hI3, hxx, h7⟩ := h6.learn
  rw [← dur_start X m] at h7
  have HX : Hid (Few X 6) := Lib.hid ⟨by omega, fun x hx => by have := hx10 x hx; omega⟩
  have HXl := Lib.hid hnx
  have HXX := Lib.hid hxx
  have HI3 := Lib.hid hI3
  clear HRE h5 h6 hxl hx10 hnx hxx hI3
  obtain ⟨hm2, hhm2⟩ : ∃ hm2, hm2 = m / 2 := ⟨_, rfl⟩
  have HM2 := Lib.hid hhm2
  have hm26 : hm2 ≤ 6 := by omega
  clear hhm2
  go_wp2_with fail
  go_loopw [14, 15, 16] (fun dv tv iv wr => ∃ i : Nat, i ≤ nx ∧ dv = .int .i64 (durJ m i : Nat) ∧ tv = .int .i64 (durT m i : Nat) ∧ iv = .int .i64 (i : Nat) ∧ Sat w wr (sep (kn I3) (sep (isLog q p (durL m i)) (sep (isDisk p (durD X m i)) emp)))) (fun _ _ iv _ => nx - (intOf iv).toNat)
  case atStart =>
    refine ⟨0, Nat.zero_le _, ?_, ?_, rfl, ?_⟩
    · rw [durJ, Nat.zero_min]; rfl
    · rw [durT, if_pos (Nat.zero_le _)]; rfl
    · have e : durL m 0 = ⟨0, 0, false⟩ := by rw [durL, durJ, Nat.zero_min, decide_eq_false (by omega)]
      rw [e]; exact h7
  case round =>
    clear h7
    obtain ⟨i, hi, rfl, rfl, rfl, hS⟩ := hrel
    by_cases hlt : i < nx
    · have g2 : (i : Int) < (nx : Int) := by omega
      have hiX : i < X.length := by have := HXl.out; omega
      obtain ⟨gb, go, gv, rfl, hcellU, hgr⟩ := slice_elemU HXX.out i hiX
      have hap := dur_step HX.out m i hiX
      rw [← HM2.out] at hap
      have hjs := jappend_spec q p (durD X m i) (durL m i) gv X[i] (show Sat w wr (sep (isLog q p (durL m i)) (sep (isDisk p (durD X m i)) (sep (kn I3) emp))) by simpa only [sep_comm, sep_lcomm, sep_assoc] using hS) hgr (by have := HX.out.each _ (List.getElem_mem hiX); omega) (by show durJ m i ≤ _; rw [durJ]; omega)
      rw [hap] at hjs
      have hcell := hcellU wr hS.ext
      have HJS := Lib.hid hjs
      obtain ⟨dn, hdn⟩ : ∃ dn, dn = durJ m i := ⟨_, rfl⟩
      obtain ⟨td, htd⟩ : ∃ td, td = durT m i := ⟨_, rfl⟩
      obtain ⟨L1, hL1⟩ : ∃ L1, L1 = durL m (i + 1) := ⟨_, rfl⟩
      obtain ⟨D1, hD1⟩ : ∃ D1, D1 = durD X m (i + 1) := ⟨_, rfl⟩
      rw [← hdn, ← htd]
      rw [← hL1, ← hD1] at HJS
      have hdt : (i ≤ hm2 → dn = i ∧ td = i) ∧ (hm2 < i → dn = hm2 ∧ td = hm2 + 1) := by
        rw [hdn, htd, durJ, durT, ← HM2.out]
        exact ⟨fun h => ⟨by omega, by rw [if_pos h]⟩, fun h => ⟨by omega, by rw [if_neg (by omega)]⟩⟩
      have HLD := Lib.hid (And.intro hL1 hD1)
      have HNEXT : Hid (durJ m (i + 1) = min (i + 1) hm2 ∧ durT m (i + 1) = if i + 1 ≤ hm2 then i + 1 else hm2 + 1) := Lib.hid (by rw [durJ, durT, ← HM2.out]; exact ⟨rfl, rfl⟩)
      clear hS hiX hcellU hgr hap hjs hdn htd hL1 hD1
      rcases Nat.lt_trichotomy i hm2 with h | h | h
      · obtain ⟨rfl, rfl⟩ := hdt.1 (by omega)
        rw [if_pos h] at HJS
        have HC := Lib.hid h
        clear hdt h hlt
        go_wp2_with fail
        refine HJS.out.mono ?_
        rintro e w6 ⟨rfl, h6⟩
        have H6 := Lib.hid h6
        clear HJS h6 hcell
        go_wp2_with fail
        go_roundw
        case rel =>
          have := HC.out
          refine ⟨td + 1, by omega, by rw [HNEXT.out.1, Nat.min_eq_left (by omega)]; go_num, by rw [HNEXT.out.2, if_pos (by omega)]; go_num, by go_num, ?_⟩
          rw [← HLD.out.1, ← HLD.out.2]
          simpa only [sep_comm, sep_lcomm, sep_assoc] using H6.out
        case measure => simp [intOf]; omega
      · obtain ⟨rfl, rfl⟩ := hdt.1 (by omega)
        rw [if_neg (by omega)] at HJS
        have HC := Lib.hid h
        clear hdt h hlt
        go_wp2_with fail
        refine HJS.out.mono ?_
        rintro e w6 ⟨rfl, h6⟩
        have H6 := Lib.hid h6
        clear HJS h6 hcell
        go_wp2_with fail
        go_roundw
        case rel =>
          have := HC.out
          refine ⟨td + 1, by omega, by rw [HNEXT.out.1, Nat.min_eq_right (by omega), ← HC.out], by rw [HNEXT.out.2, if_neg (by omega), ← HC.out]; go_num, by go_num, ?_⟩
          rw [← HLD.out.1, ← HLD.out.2]
          simpa only [sep_comm, sep_lcomm, sep_assoc] using H6.out
        case measure => simp [intOf]; omega
      · obtain ⟨rfl, rfl⟩ := hdt.2 (by omega)
        rw [if_neg (by omega)] at HJS
        have HC := Lib.hid h
        have gne : ((dn : Int) == (i : Int)) = false := by simp; omega
        clear hdt h hlt
        go_wp2_with fail
        refine HJS.out.mono ?_
        rintro e w6 ⟨rfl, h6⟩
        have H6 := Lib.hid h6
        clear HJS h6 hcell
        go_wp2_with fail
        go_roundw
        case rel =>
          have := HC.out
          refine ⟨i + 1, by omega, by rw [HNEXT.out.1, Nat.min_eq_right (by omega)], by rw [HNEXT.out.2, if_neg (by omega)]; go_num, by go_num, ?_⟩
          rw [← HLD.out.1, ← HLD.out.2]
          simpa only [sep_comm, sep_lcomm, sep_assoc] using H6.out
        case measure => simp [intOf]; omega
    · have g2 : ¬ (i : Int) < (nx : Int) := by omega
      obtain rfl : i = nx := by omega
      have hS1 : Sat w wr (sep (isLog q p (durL m i)) (sep (isDisk p (durD X m i)) (sep (kn I3) emp))) := by
        simpa only [sep_comm, sep_lcomm, sep_assoc] using hS
      have hok : (durD X m i).ok := isDisk_ok hS1.p1
      have HLE := Lib.hid (jlen_spec q p _ hS1)
      have hdc := dur_crash HX.out m (by rw [← HXl.out]; exact hok) [a2]
      rw [← HXl.out] at hdc
      obtain ⟨g, K, hc1, hc2, hc3, hc4, hc5, hc6, hc7⟩ := hdc
      have hud : ((durJ m i : Int) == (i : Int)) = !(durL m i).down := by
        show ((durJ m i : Int) == (i : Int)) = !decide (m / 2 < i)
        rw [durJ]
        by_cases h : m / 2 < i
        · rw [decide_eq_true h]; simp; omega
        · rw [decide_eq_false h]; simp; omega
      have hdn6 : durJ m i ≤ 6 := by rw [durJ]; omega
      have htd6 : durT m i ≤ 7 := by rw [durT]; split <;> omega
      obtain ⟨dn, hdn⟩ : ∃ dn, dn = durJ m i := ⟨_, rfl⟩
      obtain ⟨td, htd⟩ : ∃ td, td = durT m i := ⟨_, rfl⟩
      obtain ⟨L, hL⟩ : ∃ L, L = durL m i := ⟨_, rfl⟩
      have hLn : L.n = dn := by rw [hL, hdn]; rfl
      rw [← hdn] at hc4 hud hdn6 ⊢
      rw [← htd] at hc5 htd6 ⊢
      rw [← hL] at HLE hud
      rw [hLn] at HLE
      obtain ⟨up, hup⟩ : ∃ up, up = !L.down := ⟨_, rfl⟩
      rw [← hup] at hud
      obtain ⟨kl, hkl⟩ : ∃ kl, kl = K.length := ⟨_, rfl⟩
      rw [← hkl] at hc3 hc4 hc5
      have HUPE := Lib.hid hup
      have HC := Lib.hid (And.intro hc1 (And.intro hc2 (And.intro hc3 (And.intro hc6 (And.intro hc7 hkl)))))
      clear hS hS1 hi hlt hok hdn htd hL hLn hup hc1 hc2 hc3 hc6 hc7 hkl
      go_wp2_with fail
      refine HLE.out.mono ?_
      rintro e w6 ⟨rfl, h6⟩
      have HUP := Lib.hid (jup_spec q p _ h6)
      rw [← HUPE.out] at HUP
      clear HLE h6
      go_wp2_with fail
      refine HUP.out.mono ?_
      rintro e w7 ⟨rfl, h7⟩
      obtain ⟨I5, hI5, hri, h13⟩ := litI (show Sat w w7 (sep (kn I3) (sep (isDisk p (durD X m i)) (sep (isLog q p L) emp))) by simpa only [sep_comm, sep_lcomm, sep_assoc] using h7) [a2] 3 (by simp [maxLen])
      have hcr := dcrash_spec p _ _ _ _ [a2] (-1) (show Sat w _ (sep (isDisk p (durD X m i)) (sep (kn I5) (sep (isLog q p L) emp))) by simpa only [sep_comm, sep_lcomm, sep_assoc] using h13) hri (by intro x hx; simp at hx; subst hx; exact HK.out) ⟨by omega, by omega⟩
      rw [HC.out.1] at hcr
      have HCR := Lib.hid hcr
      have HI5 := Lib.hid hI5
      clear HUP h7 hI5 hri h13 hcr
      go_wp2_with fail
      refine HCR.out.mono ?_
      rintro e w12 ⟨rfl, h14⟩
      have hop := jopen_spec p (hd 5000 g) ((0 : Nat) : Int) h14 (by rw [← pl_none, hd_read _ _ _ (by omega)]; exact HC.out.2.2.2.2.1)
      rw [HC.out.2.1] at hop
      have HOP := Lib.hid hop
      clear HCR h14 hop hud
      go_wp2_with fail
      refine HOP.out.mono ?_
      rintro e w14 ⟨hyes, -⟩
      obtain ⟨q2, u2, rfl, h16⟩ := hyes rfl
      dsimp only at h16
      obtain ⟨I6, hI6, hu, h17⟩ := (show Sat w w14 (sep ((rBytes.slice 1).is [u2] K) (sep (kn I5) _)) from h16.p1.p3.p1).learn
      obtain ⟨va, vc, rfl, huw⟩ := slice_form hu
      rw [← HC.out.2.2.2.2.2] at hu huw ⊢
      have hts := slice_take kl (show kl ≤ i by rw [HC.out.2.2.2.2.2, HC.out.2.2.1, List.length_take]; have := HXl.out; omega) ((rBytes.slice 1).mono (Mem.le_trans HI5.out hI6) HXX.out)
      rw [← HC.out.2.2.1] at hts
      have hswx := (slice_form' HXX.out)
      obtain ⟨xa', xc', hxe, hswx⟩ := hswx
      simp only [Value.slice.injEq] at hxe
      obtain ⟨-, -, rfl⟩ := hxe
      rw [← HXl.out] at hswx
      have hile : i ≤ rc := hswx.1
      have hrcm : rc ≤ 9223372036854775807 := hswx.2.1
      have hkli : kl ≤ i := by rw [HC.out.2.2.2.2.2, HC.out.2.2.1, List.length_take]; have := HXl.out; omega
      have hklc : kl ≤ rc := by omega
      have g6 : ¬ (kl : Int) < (dn : Int) := by omega
      have g7 : ¬ (td : Int) < (kl : Int) := by omega
      have HSL := Lib.hid (lists_kn _ _ K h17 hu hts)
      have HU := Lib.hid hu
      have HI6 := Lib.hid (Mem.le_trans HI5.out hI6)
      clear HOP hyes h16 h17 hu hts huw hI6 hswx
      go_wp2_with fail
      refine HSL.out.mono ?_
      rintro e w15 ⟨rfl, h18⟩
      have hle := jlen_spec q2 p ⟨0, kl, false⟩ (A := sep (kn I6) (sep (isDisk p (hd 5000 (one 0 K))) (sep (isLog q p L) emp))) (by
        have h19 : Sat w w15 (sep (kn I6) (sep (isLog q2 p ⟨(((0 : Nat) : Int)).toNat, K.length, false⟩) (sep (isDisk p (hd 5000 (one 0 K))) (sep (isLog q p L) emp)))) := by simpa only [sep_comm, sep_lcomm, sep_assoc] using h18
        rw [← HC.out.2.2.2.2.2] at h19
        exact h19.p1)
      have HLE := Lib.hid hle
      clear HSL h18 hle
      go_wp2_with fail
      refine HLE.out.mono ?_
      rintro e w16 ⟨rfl, h20⟩
      have g8 : ((kl : Int) != (kl : Int)) = false := by simp
      have HFEW := Lib.hid (few_spec _ b 50 h20.p1 (rBytes.mono (Mem.le_trans HI3.out HI6.out) HR.out.2.2) (by omega))
      clear HLE h20
      go_wp2_with fail
      refine HFEW.out.mono ?_
      rintro e w17 ⟨ba, bc, rfl, h21⟩
      obtain ⟨I7, hI7, hb7, h22⟩ := h21.bytes_of_osl.2.learn
      have htl : (b.take 50).length ≤ 200 := by rw [List.length_take]; omega
      obtain ⟨y, hy⟩ : ∃ y, y = b.take 50 := ⟨_, rfl⟩
      rw [← hy] at htl hb7 ⊢
      have hap := one_append (f := 0) (by omega) HC.out.2.2.2.1 (by omega) y htl none (.inl rfl)
      rw [pl_none, ← HC.out.2.2.2.2.2] at hap
      have hjs := jappend_spec q2 p (hd 5000 (one 0 K)) ⟨0, kl, false⟩ _ y (show Sat w w17 (sep (isLog q2 p ⟨0, kl, false⟩) (sep (isDisk p (hd 5000 (one 0 K))) (sep (kn I7) (sep (isLog q p L) emp)))) by simpa only [sep_comm, sep_lcomm, sep_assoc] using h22) hb7 (by omega) (by show kl ≤ _; omega)
      rw [hap] at hjs
      obtain ⟨yl, hyl⟩ : ∃ yl, yl = y.length := ⟨_, rfl⟩
      rw [← hyl] at hjs hb7 ⊢
      have HJS := Lib.hid hjs
      have HI7 := Lib.hid (And.intro hI7 hb7)
      have HTL := Lib.hid htl
      clear HFEW h21 h22 hI7 hb7 hap hjs hy htl hyl
      go_wp2_with fail
      refine HJS.out.mono ?_
      rintro e w18 ⟨rfl, h23⟩
      have h23' : Sat w w18 (sep (isLog q2 p ⟨0, kl + 1, false⟩) (sep (isDisk p (hd 5000 (one 0 (K ++ [y])))) (sep (kn I7) (sep (isLog q p L) emp)))) := h23
      have hFK : Few (K ++ [y]) 8 := HC.out.2.2.2.1.snoc HTL.out
      have hop := jopen_spec p (hd 5000 (one 0 (K ++ [y]))) ((0 : Nat) : Int) (show Sat w w18 (sep (isDisk p (hd 5000 (one 0 (K ++ [y])))) (sep (kn I7) (sep (isLog q2 p ⟨0, kl + 1, false⟩) (sep (isLog q p L) emp)))) by simpa only [sep_comm, sep_lcomm, sep_assoc] using h23') (by rw [← pl_none, hd_read _ _ _ (by omega), one_at]; have := hFK.frames (by omega); show (framesJ 0 (K ++ [y])).length ≤ _; omega)
      rw [one_open (by omega) hFK (by omega)] at hop
      have HOP := Lib.hid hop
      clear HJS h23 h23' hop hFK
      go_wp2_with fail
      refine HOP.out.mono ?_
      rintro e w19 ⟨hyes, -⟩
      obtain ⟨q3, u3, rfl, h24⟩ := hyes rfl
      dsimp only at h24
      obtain ⟨I8, hI8, hu3, h25⟩ := (show Sat w w19 (sep ((rBytes.slice 1).is [u3] (K ++ [y])) (sep (kn I7) _)) from h24.p1.p3.p1).learn
      obtain ⟨ta, tc, rfl, -⟩ := slice_form hu3
      have hKy : (K ++ [y]).length = kl + 1 := by rw [List.length_append, ← HC.out.2.2.2.2.2]; rfl
      rw [hKy] at hu3 ⊢
      obtain ⟨gb, go, gv, rfl, hcellU, hgr⟩ := slice_elemU hu3 kl (by omega)
      have hat : (K ++ [y])[kl]'(by omega) = y := by
        rw [List.getElem_append_right (by rw [← HC.out.2.2.2.2.2]; omega)]
        simp
      rw [hat] at hgr
      have hcell := hcellU w19 h25.ext
      have HSB := Lib.hid (sameb_kn gv _ y h25 hgr (rBytes.mono hI8 HI7.out.2))
      clear HOP hyes h24 h25 hu3 hcellU hgr hat hI8 hKy
      go_wp2_with fail
      refine HSB.out.mono ?_
      rintro e w20 ⟨rfl, h26⟩
      have HLI := Lib.hid (lives30_spec h26)
      clear HSB h26
      go_wp2_with fail
      refine HLI.out.mono ?_
      rintro e w21 ⟨rfl, h27⟩
      go_wp2_with fail
      go_ret
      exact ⟨rfl, h27.below⟩
end Go.Proofs.Ytdaknmcmjnbfeaa
