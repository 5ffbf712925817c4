/- DiskArguments, the walk. -/
import Derived.Test.YtbniekblkbdidaaD9
namespace Go.Proofs.Ytbniekblkbdidaa
open Go.RowKit PA
theorem newD_app {k : Nat} {n : Int} {b : List UInt8} (hn : 0 ≤ n ∧ n < 64) : appendD (newD k) n b = if k < b.length then (18, newD k) else (0, (newD k).app n.toNat b) := by
  have h0 : (newD k).used = 0 := by
    have : ∀ n, sumTo (fun _ => 0) n = 0 := fun n => by
      induction n with
      | zero => rfl
      | succ n ih => rw [sumTo, ih]
    exact this 64
  have hr : (newD k).room = k := rfl
  have ho : (newD k).off = false := rfl
  have hs : ((newD k).app n.toNat b).step = (true, (newD k).app n.toNat b) := rfl
  rw [appendD, if_neg (by omega), ho, h0, hr, hs]
  simp only [Bool.false_eq_true, if_false, Nat.zero_add, if_true]
theorem newD_used (k : Nat) : (newD k).used = 0 := by
  have : ∀ n, sumTo (fun _ => 0) n = 0 := fun n => by
    induction n with
    | zero => rfl
    | succ n ih => rw [sumTo, ih]
  exact this 64
theorem app_used {k j : Nat} {b : List UInt8} (hj : j < 64) : ((newD k).app j b).used = b.length := by
  have := usedF_put (fs := noFiles) (n := j) (x := ([] ++ b, 0)) hj
  have h0 : usedF noFiles = 0 := newD_used k
  rw [h0] at this
  show usedF (dset noFiles j ([] ++ b, 0)) = _
  simp [noFiles] at this ⊢
  omega
theorem read_app {k j : Nat} {b : List UInt8} (hj : j < 64) : readD ((newD k).app j b) (j : Int) = (b, 0) := by
  rw [readD, if_neg (by omega)]
  show (if false = true then (([] : List UInt8), (19 : Int)) else ((dset noFiles j (([] : List UInt8) ++ b, 0) (j : Int).toNat).1, 0)) = _
  simp [dset]
set_option maxRecDepth 100000 in
set_option maxHeartbeats 8000000 in
theorem diskArguments_walk (a0 a1 a2 : Int) (a3 : Option Addr) (len3 cap3 : Nat) (z3 : List Int) (w : World)
    (w0 : (Lit.int .i64 a0).wf = true) (w1 : (Lit.int .i64 a1).wf = true) (w2 : (Lit.int .i64 a2).wf = true) (w3 : IsArgB w a3 len3 cap3 z3) :
    Calls Try.prog 4 #[.int .i64 a0, .int .i64 a1, .int .i64 a2, .slice a3 len3 cap3] w fun e w' => e = .returned (.bool true) ∧ Below w.heap.size w w' := by
  obtain ⟨l0, hl0, hb0⟩ := argB w3
  have h0 := Sat.startKn w
  by_cases hroom : a0 < 0 ∨ 16777216 < a0
  · /-DEV-/
    have hnew := dnew_no a0 h0 hroom
    have HN := Lib.hid hnew
    have hroom2 : (decide (a0 < 0) || decide (a0 > 16777216)) = true := by
      rcases hroom with h | h
      · simp [h]
      · simp [h]
    have HR := Lib.hid hroom
    clear hnew h0 hb0 hl0 w0 w1 w2 w3 hroom
    rcases HR.out with h1 | h1
    · go_enter Try.func4, Try.ntmps4
      go_wp2_with fail
      refine HN.out.mono ?_
      rintro e w1 ⟨rfl, h1⟩
      go_wp2_with fail
      refine (lives29_spec h1).mono ?_
      rintro e w2 ⟨rfl, h2⟩
      go_wp2_with fail
      go_ret
      exact ⟨rfl, h2.below⟩
    · have h1' : ¬ a0 < 0 := by omega
      go_enter Try.func4, Try.ntmps4
      go_wp2_with fail
      refine HN.out.mono ?_
      rintro e w1 ⟨rfl, h1⟩
      go_wp2_with fail
      refine (lives29_spec h1).mono ?_
      rintro e w2 ⟨rfl, h2⟩
      go_wp2_with fail
      go_ret
      exact ⟨rfl, h2.below⟩
    /-VED-/
  · obtain ⟨k, rfl⟩ : ∃ k : Nat, a0 = (k : Int) := ⟨a0.toNat, by omega⟩
    have hk : k ≤ 16777216 := by omega
    have hk1 : ¬ (k : Int) < 0 := by omega
    have hk2 : ¬ (k : Int) > 16777216 := by omega
    have hnew := dnew_ok k h0 hk
    have HN := Lib.hid hnew
    have HB := Lib.hid hb0
    have HL := Lib.hid hl0
    have H2 := Lib.hid (i64_of_wf w2)
    clear hnew h0 hb0 hl0 w0 w1 w2 w3 hroom
    go_enter Try.func4, Try.ntmps4
    go_wp2_with fail
    refine HN.out.mono ?_
    rintro e w1 ⟨p, rfl, h1⟩
    clear HN
    have hfew := few_spec _ l0 60 h1.p1 HB.out (by omega)
    have HF := Lib.hid hfew
    clear h1 hfew
    go_wp2_with fail
    refine HF.out.mono ?_
    rintro e w2 ⟨fa, fc, rfl, h2⟩
    obtain ⟨own, hown⟩ : ∃ own, own = l0.take 60 := ⟨_, rfl⟩
    rw [← hown] at h2 ⊢
    have hol : own.length ≤ 60 := by rw [hown, List.length_take]; omega
    obtain ⟨I, hI, hr, h3⟩ := (show Sat w w2 (sep (rBytes.is [.slice fa own.length fc] own) (sep (kn (wm w)) (sep (isDisk p (newD k)) emp))) from h2.bytes_of_osl.2).learn
    have ha := dappend_spec p (newD k) a1 _ own h3.p1 hr (by omega)
    obtain ⟨s1, hs1⟩ : ∃ s1, s1 = (appendD (newD k) a1 own).2 := ⟨_, rfl⟩
    obtain ⟨e1, he1⟩ : ∃ e1, e1 = (appendD (newD k) a1 own).1 := ⟨_, rfl⟩
    rw [← hs1, ← he1] at ha
    obtain ⟨n, hn⟩ : ∃ n, n = own.length := ⟨_, rfl⟩
    rw [← hn] at hr ha hol ⊢
    have HA := Lib.hid ha
    have HR := Lib.hid hr
    have HS := Lib.hid (And.intro hs1 (And.intro he1 hn))
    clear HF h2 h3 ha hr hs1 he1 hn hown
    go_wp2_with fail
    refine HA.out.mono ?_
    rintro e w4 ⟨rfl, h4⟩
    have hrd := dread_spec p s1 a1 h4
    obtain ⟨xs, hxs⟩ : ∃ xs, xs = (readD s1 a1).1 := ⟨_, rfl⟩
    obtain ⟨e2, he2⟩ : ∃ e2, e2 = (readD s1 a1).2 := ⟨_, rfl⟩
    rw [← hxs, ← he2] at hrd
    obtain ⟨nx, hnx⟩ : ∃ nx, nx = xs.length := ⟨_, rfl⟩
    rw [← hnx] at hrd
    have HRD := Lib.hid hrd
    have HS2 := Lib.hid (And.intro hxs (And.intro he2 hnx))
    clear HA h4 hrd hxs he2 hnx
    go_wp2_with fail
    refine HRD.out.mono ?_
    rintro e w5 ⟨xa, xc, rfl, h5⟩
    have H5 := Lib.hid h5
    clear HRD h5
    by_cases hr : 0 ≤ a1 ∧ a1 < 64
    · have hr1 : ¬ a1 < 0 := by omega
      have hr2 : ¬ a1 > 63 := by omega
      obtain ⟨j, rfl⟩ : ∃ j : Nat, a1 = (j : Int) := ⟨a1.toNat, by omega⟩
      have hj : j < 64 := by omega
      have happ := newD_app (k := k) (b := own) hr
      by_cases hfull : k < n
      · have e1' : e1 = 18 := by rw [HS.out.2.1, happ, if_pos (by rw [← HS.out.2.2]; exact hfull)]
        have s1' : s1 = newD k := by rw [HS.out.1, happ, if_pos (by rw [← HS.out.2.2]; exact hfull)]
        have hrd : readD s1 (j : Int) = ([], 0) := by rw [s1', readD, if_neg (by omega)]; rfl
        have e2' : e2 = 0 := by rw [HS2.out.2.1, hrd]
        have nx' : nx = 0 := by rw [HS2.out.2.2, HS2.out.1, hrd]; rfl
        subst e1' e2' nx'
        have hus := dused_spec p s1 H5.out.p1
        rw [s1', newD_used] at hus
        have HU := Lib.hid hus
        have g : (n : Int) > (k : Int) := by omega
        clear hus happ s1' hrd hr hfull
        go_wp2_with fail
        refine HU.out.mono ?_
        rintro e w6 ⟨rfl, h6⟩
        clear HU
        go_wp2_with fail
        refine (lives29_spec h6).mono ?_
        rintro e w7 ⟨rfl, h7⟩
        go_wp2_with fail
        go_ret
        exact ⟨rfl, h7.below⟩
      · have e1' : e1 = 0 := by rw [HS.out.2.1, happ, if_neg (by rw [← HS.out.2.2]; exact hfull)]
        have s1' : s1 = (newD k).app j own := by rw [HS.out.1, happ, if_neg (by rw [← HS.out.2.2]; exact hfull)]; rfl
        have hrd : readD s1 (j : Int) = (own, 0) := by rw [s1', read_app hj]
        have e2' : e2 = 0 := by rw [HS2.out.2.1, hrd]
        have xs' : xs = own := by rw [HS2.out.1, hrd]
        have nx' : nx = n := by rw [HS2.out.2.2, xs', HS.out.2.2]
        subst e1' e2' xs' nx'
        have g : ¬ (nx : Int) > (k : Int) := by omega
        have H6 : Sat w w5 (sep (rBytes.is [.slice xa nx xc] xs) (sep (isDisk p s1) (sep (kn I) emp))) := H5.out.bytes_of_osl.2
        obtain ⟨J, hJ, hrx, h7⟩ := (H6.p2.p1).learn
        have h8 : Sat w w5 (sep (kn J) (sep (isDisk p s1) emp)) := h7
        have hrf := rBytes.mono hJ HR.out
        have hsb := sameBytes_spec (.slice xa nx xc) (.slice fa nx fc) xs xs ((h8.tell hrf).p1.tell hrx).p2.p1
        rw [decide_eq_true rfl] at hsb
        have hfs : s1.fs j = (xs, 0) := by rw [s1']; show dset noFiles j ([] ++ xs, 0) j = _; simp [dset]
        have hus1 : s1.used = nx := by rw [s1', app_used hj, HS.out.2.2]
        have hoff : s1.off = false := by rw [s1']; rfl
        have hplan : s1.plan = none := by rw [s1']; rfl
        have hfa : fileAt s1.fs (j : Int) = (xs, 0) := by rw [fileAt, if_pos (by omega)]; exact hfs
        have hstep : s1.step = (true, s1) := by unfold DSt.step; rw [hplan]
        have HSB := Lib.hid hsb
        have HF := Lib.hid (And.intro hfs (And.intro hus1 (And.intro hoff (And.intro hfa hstep))))
        have HRF := Lib.hid hrf
        have hgf : nx ≤ fc ∧ fc ≤ 9223372036854775807 := by
          obtain ⟨h1, h2, -⟩ := rel_src' HR.out
          exact ⟨h2.1, h2.2.1⟩
        clear hsb h8 h7 H6 hrx hrf happ s1' hrd hfull hfs hus1 hoff hplan hfa hstep hr
        go_wp2_with fail
        refine HSB.out.mono ?_
        rintro e w6 ⟨rfl, h9⟩
        have h10 : Sat w w6 (sep (isDisk p s1) (sep (kn J) emp)) := (show Sat w w6 (sep (kn J) (sep (isDisk p s1) emp)) from h9.drop.drop).p1
        have htr := dtrunc_spec p s1 (j : Int) a2 h10
        clear HSB h9
        by_cases hsz : a2 < 0 ∨ (nx : Int) < a2
        · have htt : truncD s1 (j : Int) a2 = (1, s1) := by
            rw [truncD, if_pos ?_]
            rw [HF.out.2.2.2.1]
            show (j : Int) < 0 ∨ 64 ≤ (j : Int) ∨ a2 < 0 ∨ (xs.length : Int) < a2
            rw [← HS.out.2.2]; omega
          rw [htt] at htr
          have HTR := Lib.hid htr
          have HSZ := Lib.hid hsz
          clear htr htt h10 hsz
          rcases Int.lt_or_le a2 0 with g1 | g1
          ·
            go_wp2_with fail
            refine HTR.out.mono ?_
            rintro e w7 ⟨rfl, h11⟩
            clear HTR
            have hus := dused_spec p s1 h11
            rw [HF.out.2.1] at hus
            have HU := Lib.hid hus
            clear hus h11
            go_wp2_with fail
            refine HU.out.mono ?_
            rintro e w8 ⟨rfl, h12⟩
            clear HU
            go_wp2_with fail
            refine (lives29_spec h12).mono ?_
            rintro e w9 ⟨rfl, h13⟩
            go_wp2_with fail
            go_ret
            exact ⟨rfl, h13.below⟩
          · have g2 : ¬ a2 < 0 := by omega
            have g3 : a2 > (nx : Int) := by have := HSZ.out; omega
            go_wp2_with fail
            refine HTR.out.mono ?_
            rintro e w7 ⟨rfl, h11⟩
            clear HTR
            have hus := dused_spec p s1 h11
            rw [HF.out.2.1] at hus
            have HU := Lib.hid hus
            clear hus h11
            go_wp2_with fail
            refine HU.out.mono ?_
            rintro e w8 ⟨rfl, h12⟩
            clear HU
            go_wp2_with fail
            refine (lives29_spec h12).mono ?_
            rintro e w9 ⟨rfl, h13⟩
            go_wp2_with fail
            go_ret
            exact ⟨rfl, h13.below⟩
        · obtain ⟨sz, rfl⟩ : ∃ sz : Nat, a2 = (sz : Int) := ⟨a2.toNat, by omega⟩
          have hszn : sz ≤ nx := by omega
          have g2 : ¬ (sz : Int) < 0 := by omega
          have g3 : ¬ (sz : Int) > (nx : Int) := by omega
          have g4 : (sz : Int) ≤ (fc : Int) := by omega
          have g5 : (0 : Int) ≤ (sz : Int) := by omega
          have htt : truncD s1 (j : Int) (sz : Int) = (0, s1.put j (xs.take sz, 0)) := by
            rw [truncD, if_neg ?_, HF.out.2.2.1, HF.out.2.2.2.2]
            · simp only [Bool.false_eq_true, if_false, if_true, Int.toNat_natCast]
              rw [HF.out.1]
              simp
            · rw [HF.out.2.2.2.1]
              show ¬ ((j : Int) < 0 ∨ 64 ≤ (j : Int) ∨ (sz : Int) < 0 ∨ (xs.length : Int) < (sz : Int))
              rw [← HS.out.2.2]; omega
          rw [htt] at htr
          have hrd2 : readD (s1.put j (xs.take sz, 0)) (j : Int) = (xs.take sz, 0) := by
            rw [readD, if_neg (by omega)]
            show (if s1.off = true then _ else ((dset s1.fs j (xs.take sz, 0) (j : Int).toNat).1, (0 : Int))) = _
            rw [HF.out.2.2.1]
            simp [dset]
          have HTR := Lib.hid htr
          have HRD2 := Lib.hid hrd2
          clear htr htt h10 hsz hrd2
          go_wp2_with fail
          refine HTR.out.mono ?_
          rintro e w7 ⟨rfl, h11⟩
          clear HTR
          have hrd := dread_spec p _ (j : Int) h11
          rw [HRD2.out] at hrd
          obtain ⟨ys, hys⟩ : ∃ ys, ys = xs.take sz := ⟨_, rfl⟩
          have hyl : ys.length = sz := by rw [hys, List.length_take, ← HS.out.2.2]; omega
          rw [← hys] at hrd
          dsimp only at hrd
          rw [hyl] at hrd
          have HRD := Lib.hid hrd
          have HYS := Lib.hid (And.intro hys hyl)
          clear h11 hrd hys hyl
          go_wp2_with fail
          refine HRD.out.mono ?_
          rintro e w8 ⟨ya, yc, rfl, h12⟩
          clear HRD
          have h13 := (show Sat w w8 (sep (rBytes.is [.slice ya sz yc] ys) (sep _ (sep (kn J) emp))) from h12.bytes_of_osl.2)
          obtain ⟨hrt, hlt⟩ := rel_take' sz hszn HRF.out
          rw [hlt, ← HYS.out.1] at hrt
          have hsb := sameBytes_spec (.slice ya sz yc) (.slice fa sz fc) ys ys (h13.p2.tell hrt).p2
          rw [decide_eq_true rfl] at hsb
          have HSB := Lib.hid hsb
          clear h12 h13 hrt hlt hsb
          go_wp2_with fail
          refine HSB.out.mono ?_
          rintro e w9 ⟨rfl, h14⟩
          clear HSB
          go_wp2_with fail
          refine (lives29_spec h14).mono ?_
          rintro e w10 ⟨rfl, h15⟩
          go_wp2_with fail
          go_ret
          exact ⟨rfl, h15.below⟩
    · have hr1 : (decide (a1 < 0) || decide (63 < a1)) = true := by
        simp; omega
      have happ : appendD (newD k) a1 own = (1, newD k) := by rw [appendD, if_pos (by omega)]
      have e1' : e1 = 1 := by rw [HS.out.2.1, happ]
      have s1' : s1 = newD k := by rw [HS.out.1, happ]
      have hrd : readD s1 a1 = ([], 1) := by rw [readD, if_pos (by omega)]
      have e2' : e2 = 1 := by rw [HS2.out.2.1, hrd]
      have nx' : nx = 0 := by rw [HS2.out.2.2, HS2.out.1, hrd]; rfl
      subst e1' e2' nx'
      have htr := dtrunc_spec p s1 a1 0 H5.out.p1
      have htt : truncD s1 a1 0 = (1, s1) := by rw [truncD, if_pos (by omega)]
      rw [htt] at htr
      have HTR := Lib.hid htr
      have HS1 := Lib.hid s1'
      clear happ s1' hrd htr htt
      rcases Int.lt_or_le a1 0 with g1 | g1
      ·
        go_wp2_with fail
        refine HTR.out.mono ?_
        rintro e w6 ⟨rfl, h6⟩
        clear HTR
        have hus := dused_spec p s1 h6
        rw [HS1.out, newD_used] at hus
        have HU := Lib.hid hus
        clear hus h6
        go_wp2_with fail
        refine HU.out.mono ?_
        rintro e w7 ⟨rfl, h7⟩
        clear HU
        go_wp2_with fail
        refine (lives29_spec h7).mono ?_
        rintro e w8 ⟨rfl, h8⟩
        go_wp2_with fail
        go_ret
        exact ⟨rfl, h8.below⟩
      · have g2 : ¬ a1 < 0 := by omega
        have g3 : a1 > 63 := by omega
        go_wp2_with fail
        refine HTR.out.mono ?_
        rintro e w6 ⟨rfl, h6⟩
        clear HTR
        have hus := dused_spec p s1 h6
        rw [HS1.out, newD_used] at hus
        have HU := Lib.hid hus
        clear hus h6
        go_wp2_with fail
        refine HU.out.mono ?_
        rintro e w7 ⟨rfl, h7⟩
        clear HU
        go_wp2_with fail
        refine (lives29_spec h7).mono ?_
        rintro e w8 ⟨rfl, h8⟩
        go_wp2_with fail
        go_ret
        exact ⟨rfl, h8.below⟩
end Go.Proofs.Ytbniekblkbdidaa
