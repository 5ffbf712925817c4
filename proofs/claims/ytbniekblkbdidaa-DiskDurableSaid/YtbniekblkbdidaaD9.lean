/- Package disk: the example of the section. -/
import Derived.Test.YtbniekblkbdidaaD8
import Derived.Test.YtbniekblkbdidaaLt
namespace Go.Proofs.Ytbniekblkbdidaa
open Go.RowKit PA
set_option maxRecDepth 100000 in
set_option maxHeartbeats 8000000 in
theorem lives29_spec {W w : World} {A : Assn} (h : Sat W w A) :
    Calls Try.prog 19 #[] w fun e w' => e = .returned (.bool true) ∧ Sat W w' A := by
  obtain ⟨I0, hk0⟩ := h.know
  have hnew := dnew_ok 100 hk0 (by omega)
  have HN := Lib.hid hnew
  obtain ⟨s0, hs0⟩ : ∃ s0, s0 = newD 100 := ⟨_, rfl⟩
  obtain ⟨s1, hs1⟩ : ∃ s1, s1 = (appendD s0 3 [1, 2]).2 := ⟨_, rfl⟩
  obtain ⟨s2, hs2⟩ : ∃ s2, s2 = (syncD s1).2 := ⟨_, rfl⟩
  obtain ⟨s3, hs3⟩ : ∃ s3, s3 = (appendD s2 3 [255]).2 := ⟨_, rfl⟩
  obtain ⟨s4, hs4⟩ : ∃ s4, s4 = crashD s3 [1] 7 := ⟨_, rfl⟩
  obtain ⟨c1, hc1⟩ : ∃ c1, c1 = crashD s3 [] 7 := ⟨_, rfl⟩
  obtain ⟨c2, hc2⟩ : ∃ c2, c2 = armD c1 0 := ⟨_, rfl⟩
  obtain ⟨c3, hc3⟩ : ∃ c3, c3 = (appendD c2 1 []).2 := ⟨_, rfl⟩
  have f1 : readD s4 3 = ([1, 2, 254], 0) := by subst hs4; subst hs3; subst hs2; subst hs1; subst hs0; rfl
  have f2 : readD c1 3 = ([1, 2], 0) := by subst hc1; subst hs3; subst hs2; subst hs1; subst hs0; rfl
  have f3 : (appendD c2 1 []).1 = 19 := by subst hc2; subst hc1; subst hs3; subst hs2; subst hs1; subst hs0; rfl
  have f4 : readD c3 3 = ([], 19) := by subst hc3; subst hc2; subst hc1; subst hs3; subst hs2; subst hs1; subst hs0; rfl
  rw [← hs0] at HN
  have HF := Lib.hid (And.intro f1 (And.intro f2 (And.intro f3 f4)))
  have HS := Lib.hid (And.intro hs1 (And.intro hs2 (And.intro hs3 (And.intro hs4 (And.intro hc1 (And.intro hc2 hc3))))))
  clear hnew hk0 h f1 f2 f3 f4 hs0 hs1 hs2 hs3 hs4 hc1 hc2 hc3
  go_enter Try.func19, Try.ntmps19
  go_wp2_with fail
  refine HN.out.mono ?_
  rintro e w1 ⟨p, rfl, h1⟩
  clear HN
  obtain ⟨I1, hI1, hb1, h2⟩ := litB h1.p1 [1, 2] 5 (by decide)
  have ha := dappend_spec p s0 3 _ [1, 2] h2.p1 hb1 (by simp)
  have HA := Lib.hid ha
  clear h1 h2 hb1 ha
  go_wp2_with fail
  refine HA.out.mono ?_
  rintro e w2 ⟨rfl, h3⟩
  rw [← HS.out.1] at h3
  have hb := dsync_spec p s1 h3
  have HB := Lib.hid hb
  clear HA h3 hb
  go_wp2_with fail
  refine HB.out.mono ?_
  rintro e w3 ⟨rfl, h4⟩
  rw [← HS.out.2.1] at h4
  obtain ⟨I2, hI2, hb2, h5⟩ := litB h4.p1 [255] 5 (by decide)
  have ha := dappend_spec p s2 3 _ [255] h5.p1 hb2 (by simp)
  have HA := Lib.hid ha
  clear HB h4 h5 hb2 ha
  go_wp2_with fail
  refine HA.out.mono ?_
  rintro e w4 ⟨rfl, h6⟩
  rw [← HS.out.2.2.1] at h6
  have hc := dcopy_spec p s3 h6
  have HC := Lib.hid hc
  clear HA h6 hc
  go_wp2_with fail
  refine HC.out.mono ?_
  rintro e w5 ⟨q, rfl, h7⟩
  obtain ⟨I3, hI3, hb3, h8⟩ := litI h7.p2 [1] 3 (by decide)
  have hd := dcrash_spec p s3 _ _ _ [1] 7 (h8.p2) hb3 (by intro x hx; simp at hx; subst hx; exact ⟨by omega, by omega⟩) ⟨by omega, by omega⟩
  have HD := Lib.hid hd
  clear HC h7 h8 hb3 hd
  go_wp2_with fail
  refine HD.out.mono ?_
  rintro e w6 ⟨rfl, h9⟩
  rw [← HS.out.2.2.2.1] at h9
  have hd := dcrash_spec q s3 _ _ _ [] 7 h9.p1.p2 (nilI I3) (by intro x hx; cases hx) ⟨by omega, by omega⟩
  have HD2 := Lib.hid hd
  clear HD h9 hd
  go_wp2_with fail
  refine HD2.out.mono ?_
  rintro e w7 ⟨rfl, h10⟩
  rw [← HS.out.2.2.2.2.1] at h10
  have hr := dread_spec p s4 3 (h10.p2)
  rw [HF.out.1] at hr
  have HR := Lib.hid hr
  clear HD2 h10 hr
  go_wp2_with fail
  refine HR.out.mono ?_
  rintro e w8 ⟨a8, k8, rfl, h11⟩
  have hr := dread_spec q c1 3 h11.p2
  rw [HF.out.2.1] at hr
  have HR2 := Lib.hid hr
  clear HR h11 hr
  go_wp2_with fail
  refine HR2.out.mono ?_
  rintro e w9 ⟨a9, k9, rfl, h12⟩
  have har := darm_spec q c1 0 h12.p1 ⟨by omega, by omega⟩
  rw [← HS.out.2.2.2.2.2.1] at har
  have HAR := Lib.hid har
  clear HR2 h12 har
  go_wp2_with fail
  refine HAR.out.mono ?_
  rintro e w10 ⟨rfl, h13⟩
  have ha := dappend_spec q c2 1 _ [] h13.p4.p1 (nilB I3) (by simp)
  rw [HF.out.2.2.1] at ha
  have HA := Lib.hid ha
  clear HAR h13 ha
  go_wp2_with fail
  refine HA.out.mono ?_
  rintro e w11 ⟨rfl, h14⟩
  rw [← HS.out.2.2.2.2.2.2] at h14
  have hr := dread_spec q c3 3 h14
  rw [HF.out.2.2.2] at hr
  have HR := Lib.hid hr
  clear HA h14 hr
  go_wp2_with fail
  refine HR.out.mono ?_
  rintro e w12 ⟨a12, k12, rfl, h15⟩
  clear HR
  have h16 : Sat W w12 (sep (osl 5 1 a8 3 k8 ([(1 : UInt8), 2, 254].map bv)) (sep (osl 5 1 a9 2 k9 ([(1 : UInt8), 2].map bv)) A)) := by
    have := h15.drop.drop.drop
    have h17 : Sat W w12 (sep (osl 5 1 a9 2 k9 ([(1 : UInt8), 2].map bv)) (sep (osl 5 1 a8 3 k8 ([(1 : UInt8), 2, 254].map bv)) (sep (isDisk p s4) A))) := this
    exact (show Sat W w12 (sep (isDisk p s4) (sep (osl 5 1 a8 3 k8 ([(1 : UInt8), 2, 254].map bv)) (sep (osl 5 1 a9 2 k9 ([(1 : UInt8), 2].map bv)) A))) by simpa only [sep_comm, sep_lcomm, sep_assoc] using h17).drop
  have h17 : Sat W (w12.alloc (.cells #[.int .u8 1, .int .u8 2, .int .u8 254] 5)) (sep (rBytes.is [.slice (some ⟨w12.heap.size, 0, none⟩) 3 3] [1, 2, 254]) (sep (osl 5 1 a8 3 k8 ([(1 : UInt8), 2, 254].map bv)) (sep (osl 5 1 a9 2 k9 ([(1 : UInt8), 2].map bv)) A))) :=
    Sat.bytes_of_alloc h16 [1, 2, 254] 5 (0, 0) (by decide)
  have hsb := sameBytes_spec (.slice a8 3 k8) (.slice (some ⟨w12.heap.size, 0, none⟩) 3 3) [1, 2, 254] [1, 2, 254] h17.p1.bytes_of_osl.2
  rw [decide_eq_true rfl] at hsb
  have HSB := Lib.hid hsb
  clear h15 h16 h17 hsb
  go_wp2_with fail
  refine HSB.out.mono ?_
  rintro e w13 ⟨rfl, h18⟩
  have h19 : Sat W (w13.alloc (.cells #[.int .u8 1, .int .u8 2] 5)) (sep (rBytes.is [.slice (some ⟨w13.heap.size, 0, none⟩) 2 2] [1, 2]) (sep (osl 5 1 a9 2 k9 ([(1 : UInt8), 2].map bv)) A)) :=
    Sat.bytes_of_alloc h18.drop.drop [1, 2] 5 (0, 0) (by decide)
  have hsb := sameBytes_spec (.slice a9 2 k9) (.slice (some ⟨w13.heap.size, 0, none⟩) 2 2) [1, 2] [1, 2] h19.p1.bytes_of_osl.2
  rw [decide_eq_true rfl] at hsb
  have HSB2 := Lib.hid hsb
  clear HSB h18 h19 hsb
  go_wp2_with fail
  refine HSB2.out.mono ?_
  rintro e w14 ⟨rfl, h20⟩
  go_wp2_with fail
  go_ret
  exact ⟨rfl, h20.drop.drop⟩
end Go.Proofs.Ytbniekblkbdidaa
