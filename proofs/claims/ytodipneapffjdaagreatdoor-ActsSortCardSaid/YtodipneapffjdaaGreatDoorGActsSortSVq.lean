/- The reference's formed acts (printed by genvq.py). -/
import Derived.Test.YtodipneapffjdaaGreatDoorGActsSort31
namespace Go.Proofs.YtodipneapffjdaaGreatDoor
open Go.RowKit PA
attribute [local go_sem ↓] storeAt_act loadAt_act sizeAct
set_option maxRecDepth 100000 in
set_option maxHeartbeats 8000000 in
theorem formed18_spec {W w : World} {A : Assn} {I : Mem} (z : Ac) (x : Pa) (hA : IsA I z x) (hz : SzA x) (h : Sat W w (sep (kn I) A)) :
    Calls Tryz.prog 53 #[.agg z.cells.toArray] w fun e w' => ∃ J, e = .returned (.bool (formedP x)) ∧ Mem.le I J ∧ Sat W w' (sep (kn J) A) := by
  have h1 := (h.alloc (.cells z.cells.toArray 37)).p1
  obtain ⟨B, hB⟩ : ∃ B, B = w.heap.size := ⟨_, rfl⟩
  obtain ⟨w1, hw1⟩ : ∃ y, y = w.alloc (.cells z.cells.toArray 37) := ⟨_, rfl⟩
  rw [← hB, ← hw1] at h1
  have HB := Lib.hid (And.intro hB hw1)
  have hld := ld_cs h1.p1
  have k0 := (act_fr h1.p1 0 _ rfl).1
  have k1 := (act_fr h1.p1 1 _ rfl).1
  have k4 := (act_fr h1.p1 4 _ rfl).1
  have k5 := (act_fr h1.p1 5 _ rfl).1
  have k6 := (act_fr h1.p1 6 _ rfl).1
  have k7 := (act_fr h1.p1 7 _ rfl).1
  have k8 := (act_fr h1.p1 8 _ rfl).1
  have k9 := (act_fr h1.p1 9 _ rfl).1
  have k10 := (act_fr h1.p1 10 _ rfl).1
  have k13 := (act_fr h1.p1 13 _ rfl).1
  have k15 := (act_fr h1.p1 15 _ rfl).1
  have k16 := (act_fr h1.p1 16 _ rfl).1
  have k17 := (act_fr h1.p1 17 _ rfl).1
  have k18 := (act_fr h1.p1 18 _ rfl).1
  obtain ⟨kz, hkz⟩ : ∃ y, y = z.k := ⟨_, rfl⟩
  rw [← hkz] at k0
  obtain ⟨rv, hrv⟩ : ∃ y, y = formedP x := ⟨_, rfl⟩
  obtain ⟨pa, hpa⟩ : ∃ y, y = partiesP x := ⟨_, rfl⟩
  obtain ⟨lt, hlt⟩ : ∃ y, y = laterP x := ⟨_, rfl⟩
  have HK : Hid (x.k = kz) := Lib.hid (by rw [hkz, hA.k])
  have CW : Hid (∀ n lo hi w', Calls Tryz.prog 52 #[.int .i64 n, .int .i64 lo, .int .i64 hi] w' fun e w'' => e = .returned (.bool (inRv n lo hi)) ∧ w' = w'') := Lib.hid fun n lo hi w' => within18_spec n lo hi w'
  have CL : Hid (∀ w', Calls Tryz.prog 52 #[.int .i64 z.u, .int .i64 z.d, .int .i64 131072] w' fun e w'' => e = .returned (.bool lt) ∧ w' = w'') := Lib.hid fun w' => by rw [hlt]; unfold laterP; rw [← hA.u, ← hA.d]; exact within18_spec _ _ _ w'
  have HA := Lib.hid (And.intro hA hz)
  have HRV := Lib.hid hrv
  have HPA := Lib.hid hpa.symm
  have HLT := Lib.hid hlt.symm
  have HPAR : Hid (pa = (inRv z.p 1 4095 && (inRv z.q 1 4095 && decide (z.p ≠ z.q)))) := Lib.hid (by rw [hpa]; unfold partiesP; rw [hA.p, hA.q])
  have H1 := Lib.hid h1
  rw [← hrv]
  obtain ⟨Po, hPo⟩ : ∃ P : Ending → World → Prop, P = fun e w' => ∃ J, e = .returned (.bool rv) ∧ Mem.le I J ∧ Sat W w' (sep (kn J) A) := ⟨_, rfl⟩
  rw [← hPo]
  have HPO := Lib.hid hPo
  clear hA hz h h1 hB hw1 hkz hrv hpa hlt hPo
  go_enter Tryz.func53, Tryz.ntmps53
  go_upto_region 1 with (fail)
  rw [← HB.out.1, ← HB.out.2]
  go_cut [3] from 8 to 22 (fun v wx => v = .bool pa ∧ wx = w1)
  case first =>
    as_aux_lemma =>
    obtain ⟨b1, hb1⟩ : ∃ b, b = inRv z.p 1 4095 := ⟨_, rfl⟩
    obtain ⟨b2, hb2⟩ : ∃ b, b = inRv z.q 1 4095 := ⟨_, rfl⟩
    have C1 : Hid (∀ w', Calls Tryz.prog 52 #[.int .i64 z.p, .int .i64 1, .int .i64 4095] w' fun e w'' => e = .returned (.bool b1) ∧ w' = w'') := Lib.hid fun w' => by rw [hb1]; exact CW.out _ _ _ w'
    have C2 : Hid (∀ w', Calls Tryz.prog 52 #[.int .i64 z.q, .int .i64 1, .int .i64 4095] w' fun e w'' => e = .returned (.bool b2) ∧ w' = w'') := Lib.hid fun w' => by rw [hb2]; exact CW.out _ _ _ w'
    rw [← hb1, ← hb2] at HPAR
    clear hb1 hb2 CW CL
    cases b1 with
    | false =>
      go_wp2_with fail
      refine (C1.out _).mono ?_
      rintro e w2 ⟨rfl, rfl⟩
      go_wp2
      go_meet
      case rel => exact ⟨by rw [HPAR.out]; rfl, rfl⟩
    | true =>
      cases b2 with
      | false =>
        go_wp2_with fail
        refine (C1.out _).mono ?_
        rintro e w2 ⟨rfl, rfl⟩
        go_wp2_with fail
        refine (C2.out _).mono ?_
        rintro e w2 ⟨rfl, rfl⟩
        go_wp2
        go_meet
        case rel => exact ⟨by rw [HPAR.out]; rfl, rfl⟩
      | true =>
        go_wp2_with fail
        refine (C1.out _).mono ?_
        rintro e w2 ⟨rfl, rfl⟩
        go_wp2_with fail
        refine (C2.out _).mono ?_
        rintro e w2 ⟨rfl, rfl⟩
        go_wp2
        go_meet
        case rel => exact ⟨by rw [HPAR.out]; by_cases hh : z.p = z.q <;> simp [hh], rfl⟩
  case rest =>
    obtain ⟨rfl, rfl⟩ := hcut
    clear HPAR
    go_wp2_with fail
    refine (CL.out _).mono ?_
    rintro e w2 ⟨rfl, rfl⟩
    clear CL
    have hcase : kz = 0 ∨ kz = 3 ∨ kz = 15 ∨ kz = 4 ∨ kz = 5 ∨ kz = 6 ∨ kz = 7 ∨ kz = 8 ∨ kz = 9 ∨ kz = 12 ∨ kz = 14 ∨ kz = 13 ∨ kz = 16 ∨ kz = 17 ∨ kz = 18 ∨ kz = 19 ∨ kz = 20 ∨ kz = 21 ∨ (kz ≠ 0 ∧ kz ≠ 3 ∧ kz ≠ 15 ∧ kz ≠ 4 ∧ kz ≠ 5 ∧ kz ≠ 6 ∧ kz ≠ 7 ∧ kz ≠ 8 ∧ kz ≠ 9 ∧ kz ≠ 12 ∧ kz ≠ 14 ∧ kz ≠ 13 ∧ kz ≠ 16 ∧ kz ≠ 17 ∧ kz ≠ 18 ∧ kz ≠ 19 ∧ kz ≠ 20 ∧ kz ≠ 21) := by omega
    rcases hcase with rfl | rfl | rfl | rfl | rfl | rfl | rfl | rfl | rfl | rfl | rfl | rfl | rfl | rfl | rfl | rfl | rfl | rfl | hn
    · /-DEV1-/
      as_aux_lemma =>
      obtain ⟨fb, hfb⟩ : ∃ y, y = filingP x := ⟨_, rfl⟩
      have C : Hid (∀ w' A', Sat W w' (sep (kn I) A') → Calls Tryz.prog 78 #[.agg z.cells.toArray] w' fun e w'' => ∃ J, e = .returned (.bool fb) ∧ Mem.le I J ∧ Sat W w'' (sep (kn J) A')) := Lib.hid fun w' A' h' => by rw [hfb]; exact filing18_spec z x HA.out.1 HA.out.2 h'
      have HF : Hid (rv = fb) := Lib.hid (by rw [HRV.out, hfb]; simp [formedP, HK.out])
      clear hfb CW
      go_wp2_with fail
      refine (C.out _ _ H1.out).mono ?_
      rintro e w2 ⟨J, rfl, hle, h2⟩
      have H2 := Lib.hid (And.intro hle h2.p1.drop)
      clear hle h2 H1 C hld k0 k1 k4 k5 k6 k7 k8 k9 k10 k13 k15 k16 k17 k18
      go_wp2
      rw [HPO.out]
      exact ⟨J, (by rw [HF.out]; try rfl), H2.out.1, H2.out.2⟩
    /-VED1-/
    · /-DEV2-/
      as_aux_lemma =>
      obtain ⟨fb, hfb⟩ : ∃ y, y = listedP x.cl := ⟨_, rfl⟩
      have C : Hid (∀ w' A', Sat W w' (sep (kn I) A') → Calls Tryz.prog 79 #[.slice z.cl.a z.cl.n z.cl.c] w' fun e w'' => e = .returned (.bool fb) ∧ Sat W w'' (sep (kn I) A')) := Lib.hid fun w' A' h' => by rw [hfb]; exact listed18_spec _ _ _ x.cl HA.out.1.cl HA.out.2.cl h'
      have HF : Hid (rv = fb) := Lib.hid (by rw [HRV.out, hfb]; simp [formedP, HK.out])
      clear hfb CW
      go_wp2_with fail
      refine (C.out _ _ H1.out).mono ?_
      rintro e w2 ⟨rfl, h2⟩
      have H2 := Lib.hid h2.p1.drop
      clear h2 H1 C hld k0 k1 k4 k5 k6 k7 k8 k9 k10 k13 k15 k16 k17 k18
      go_wp2
      rw [HPO.out]
      exact ⟨I, (by rw [HF.out]; try rfl), Mem.le_refl _, H2.out⟩
    /-VED2-/
    · /-DEV3-/
      as_aux_lemma =>
      obtain ⟨fb, hfb⟩ : ∃ y, y = listedP x.cl := ⟨_, rfl⟩
      have C : Hid (∀ w' A', Sat W w' (sep (kn I) A') → Calls Tryz.prog 79 #[.slice z.cl.a z.cl.n z.cl.c] w' fun e w'' => e = .returned (.bool fb) ∧ Sat W w'' (sep (kn I) A')) := Lib.hid fun w' A' h' => by rw [hfb]; exact listed18_spec _ _ _ x.cl HA.out.1.cl HA.out.2.cl h'
      have HF : Hid (rv = fb) := Lib.hid (by rw [HRV.out, hfb]; simp [formedP, HK.out])
      clear hfb CW
      go_wp2_with fail
      refine (C.out _ _ H1.out).mono ?_
      rintro e w2 ⟨rfl, h2⟩
      have H2 := Lib.hid h2.p1.drop
      clear h2 H1 C hld k0 k1 k4 k5 k6 k7 k8 k9 k10 k13 k15 k16 k17 k18
      go_wp2
      rw [HPO.out]
      exact ⟨I, (by rw [HF.out]; try rfl), Mem.le_refl _, H2.out⟩
    /-VED3-/
    · /-DEV4-/
      as_aux_lemma =>
      obtain ⟨b0, hb0⟩ : ∃ b, b = inRv z.u 0 5 := ⟨_, rfl⟩
      have C0 : Hid (∀ w', Calls Tryz.prog 52 #[.int .i64 z.u, .int .i64 0, .int .i64 5] w' fun e w'' => e = .returned (.bool b0) ∧ w' = w'') := Lib.hid fun w' => by rw [hb0]; exact CW.out _ _ _ w'
      have X0 : Hid (inRv x.u 0 5 = b0) := Lib.hid (by rw [hb0, HA.out.1.u])
      clear hb0
      obtain ⟨b1, hb1⟩ : ∃ b, b = inRv z.u 7 66 := ⟨_, rfl⟩
      have C1 : Hid (∀ w', Calls Tryz.prog 52 #[.int .i64 z.u, .int .i64 7, .int .i64 66] w' fun e w'' => e = .returned (.bool b1) ∧ w' = w'') := Lib.hid fun w' => by rw [hb1]; exact CW.out _ _ _ w'
      have X1 : Hid (inRv x.u 7 66 = b1) := Lib.hid (by rw [hb1, HA.out.1.u])
      clear hb1
      obtain ⟨b2, hb2⟩ : ∃ b, b = inRv z.p 1 4095 := ⟨_, rfl⟩
      have C2 : Hid (∀ w', Calls Tryz.prog 52 #[.int .i64 z.p, .int .i64 1, .int .i64 4095] w' fun e w'' => e = .returned (.bool b2) ∧ w' = w'') := Lib.hid fun w' => by rw [hb2]; exact CW.out _ _ _ w'
      have X2 : Hid (inRv x.p 1 4095 = b2) := Lib.hid (by rw [hb2, HA.out.1.p])
      clear hb2
      obtain ⟨b3, hb3⟩ : ∃ b, b = inRv z.p 1 4095 := ⟨_, rfl⟩
      have C3 : Hid (∀ w', Calls Tryz.prog 52 #[.int .i64 z.p, .int .i64 1, .int .i64 4095] w' fun e w'' => e = .returned (.bool b3) ∧ w' = w'') := Lib.hid fun w' => by rw [hb3]; exact CW.out _ _ _ w'
      have X3 : Hid (inRv x.p 1 4095 = b3) := Lib.hid (by rw [hb3, HA.out.1.p])
      clear hb3
      obtain ⟨b4, hb4⟩ : ∃ b, b = inRv z.q 0 7 := ⟨_, rfl⟩
      have C4 : Hid (∀ w', Calls Tryz.prog 52 #[.int .i64 z.q, .int .i64 0, .int .i64 7] w' fun e w'' => e = .returned (.bool b4) ∧ w' = w'') := Lib.hid fun w' => by rw [hb4]; exact CW.out _ _ _ w'
      have X4 : Hid (inRv x.q 0 7 = b4) := Lib.hid (by rw [hb4, HA.out.1.q])
      clear hb4
      obtain ⟨b5, hb5⟩ : ∃ b, b = inRv z.m 1 1099511627776 := ⟨_, rfl⟩
      have C5 : Hid (∀ w', Calls Tryz.prog 52 #[.int .i64 z.m, .int .i64 1, .int .i64 1099511627776] w' fun e w'' => e = .returned (.bool b5) ∧ w' = w'') := Lib.hid fun w' => by rw [hb5]; exact CW.out _ _ _ w'
      have X5 : Hid (inRv x.m 1 1099511627776 = b5) := Lib.hid (by rw [hb5, HA.out.1.m])
      clear hb5
      clear CW
      cases b0 with
      | false =>
        cases b1 with
        | false =>
          cases b3 with
          | false =>
            go_wp2_with fail
            refine (C0.out _).mono ?_
            rintro e w2 ⟨rfl, rfl⟩
            go_wp2_with fail
            refine (C1.out _).mono ?_
            rintro e w2 ⟨rfl, rfl⟩
            go_wp2_with fail
            refine (C3.out _).mono ?_
            rintro e w2 ⟨rfl, rfl⟩
            have HF : Hid (rv = false) := Lib.hid (by rw [HRV.out]; simp [formedP, HK.out, X0.out, X1.out, X3.out])
            clear hld
            go_wp2
            rw [HPO.out]
            exact ⟨I, (by rw [HF.out]; try rfl), Mem.le_refl _, H1.out.p1.drop⟩
          | true =>
            go_wp2_with fail
            refine (C0.out _).mono ?_
            rintro e w2 ⟨rfl, rfl⟩
            go_wp2_with fail
            refine (C1.out _).mono ?_
            rintro e w2 ⟨rfl, rfl⟩
            go_wp2_with fail
            refine (C3.out _).mono ?_
            rintro e w2 ⟨rfl, rfl⟩
            have HF : Hid (rv = false) := Lib.hid (by rw [HRV.out]; simp [formedP, HK.out, X0.out, X1.out, X3.out])
            clear hld
            go_wp2
            rw [HPO.out]
            exact ⟨I, (by rw [HF.out]; try rfl), Mem.le_refl _, H1.out.p1.drop⟩
        | true =>
          cases b2 with
          | false =>
            go_wp2_with fail
            refine (C0.out _).mono ?_
            rintro e w2 ⟨rfl, rfl⟩
            go_wp2_with fail
            refine (C1.out _).mono ?_
            rintro e w2 ⟨rfl, rfl⟩
            go_wp2_with fail
            refine (C2.out _).mono ?_
            rintro e w2 ⟨rfl, rfl⟩
            have HF : Hid (rv = false) := Lib.hid (by rw [HRV.out]; simp [formedP, HK.out, X0.out, X1.out, X2.out])
            clear hld
            go_wp2
            rw [HPO.out]
            exact ⟨I, (by rw [HF.out]; try rfl), Mem.le_refl _, H1.out.p1.drop⟩
          | true =>
            cases b4 with
            | false =>
              go_wp2_with fail
              refine (C0.out _).mono ?_
              rintro e w2 ⟨rfl, rfl⟩
              go_wp2_with fail
              refine (C1.out _).mono ?_
              rintro e w2 ⟨rfl, rfl⟩
              go_wp2_with fail
              refine (C2.out _).mono ?_
              rintro e w2 ⟨rfl, rfl⟩
              go_wp2_with fail
              refine (C4.out _).mono ?_
              rintro e w2 ⟨rfl, rfl⟩
              have HF : Hid (rv = false) := Lib.hid (by rw [HRV.out]; simp [formedP, HK.out, X0.out, X1.out, X2.out, X4.out])
              clear hld
              go_wp2
              rw [HPO.out]
              exact ⟨I, (by rw [HF.out]; try rfl), Mem.le_refl _, H1.out.p1.drop⟩
            | true =>
              cases b5 with
              | false =>
                go_wp2_with fail
                refine (C0.out _).mono ?_
                rintro e w2 ⟨rfl, rfl⟩
                go_wp2_with fail
                refine (C1.out _).mono ?_
                rintro e w2 ⟨rfl, rfl⟩
                go_wp2_with fail
                refine (C2.out _).mono ?_
                rintro e w2 ⟨rfl, rfl⟩
                go_wp2_with fail
                refine (C4.out _).mono ?_
                rintro e w2 ⟨rfl, rfl⟩
                go_wp2_with fail
                refine (C5.out _).mono ?_
                rintro e w2 ⟨rfl, rfl⟩
                have HF : Hid (rv = false) := Lib.hid (by rw [HRV.out]; simp [formedP, HK.out, X0.out, X1.out, X2.out, X4.out, X5.out])
                clear hld
                go_wp2
                rw [HPO.out]
                exact ⟨I, (by rw [HF.out]; try rfl), Mem.le_refl _, H1.out.p1.drop⟩
              | true =>
                go_wp2_with fail
                refine (C0.out _).mono ?_
                rintro e w2 ⟨rfl, rfl⟩
                go_wp2_with fail
                refine (C1.out _).mono ?_
                rintro e w2 ⟨rfl, rfl⟩
                go_wp2_with fail
                refine (C2.out _).mono ?_
                rintro e w2 ⟨rfl, rfl⟩
                go_wp2_with fail
                refine (C4.out _).mono ?_
                rintro e w2 ⟨rfl, rfl⟩
                go_wp2_with fail
                refine (C5.out _).mono ?_
                rintro e w2 ⟨rfl, rfl⟩
                have HF : Hid (rv = true) := Lib.hid (by rw [HRV.out]; simp [formedP, HK.out, X0.out, X1.out, X2.out, X4.out, X5.out])
                clear hld
                go_wp2
                rw [HPO.out]
                exact ⟨I, (by rw [HF.out]; try rfl), Mem.le_refl _, H1.out.p1.drop⟩
      | true =>
        cases b2 with
        | false =>
          go_wp2_with fail
          refine (C0.out _).mono ?_
          rintro e w2 ⟨rfl, rfl⟩
          go_wp2_with fail
          refine (C2.out _).mono ?_
          rintro e w2 ⟨rfl, rfl⟩
          have HF : Hid (rv = false) := Lib.hid (by rw [HRV.out]; simp [formedP, HK.out, X0.out, X2.out])
          clear hld
          go_wp2
          rw [HPO.out]
          exact ⟨I, (by rw [HF.out]; try rfl), Mem.le_refl _, H1.out.p1.drop⟩
        | true =>
          cases b4 with
          | false =>
            go_wp2_with fail
            refine (C0.out _).mono ?_
            rintro e w2 ⟨rfl, rfl⟩
            go_wp2_with fail
            refine (C2.out _).mono ?_
            rintro e w2 ⟨rfl, rfl⟩
            go_wp2_with fail
            refine (C4.out _).mono ?_
            rintro e w2 ⟨rfl, rfl⟩
            have HF : Hid (rv = false) := Lib.hid (by rw [HRV.out]; simp [formedP, HK.out, X0.out, X2.out, X4.out])
            clear hld
            go_wp2
            rw [HPO.out]
            exact ⟨I, (by rw [HF.out]; try rfl), Mem.le_refl _, H1.out.p1.drop⟩
          | true =>
            cases b5 with
            | false =>
              go_wp2_with fail
              refine (C0.out _).mono ?_
              rintro e w2 ⟨rfl, rfl⟩
              go_wp2_with fail
              refine (C2.out _).mono ?_
              rintro e w2 ⟨rfl, rfl⟩
              go_wp2_with fail
              refine (C4.out _).mono ?_
              rintro e w2 ⟨rfl, rfl⟩
              go_wp2_with fail
              refine (C5.out _).mono ?_
              rintro e w2 ⟨rfl, rfl⟩
              have HF : Hid (rv = false) := Lib.hid (by rw [HRV.out]; simp [formedP, HK.out, X0.out, X2.out, X4.out, X5.out])
              clear hld
              go_wp2
              rw [HPO.out]
              exact ⟨I, (by rw [HF.out]; try rfl), Mem.le_refl _, H1.out.p1.drop⟩
            | true =>
              go_wp2_with fail
              refine (C0.out _).mono ?_
              rintro e w2 ⟨rfl, rfl⟩
              go_wp2_with fail
              refine (C2.out _).mono ?_
              rintro e w2 ⟨rfl, rfl⟩
              go_wp2_with fail
              refine (C4.out _).mono ?_
              rintro e w2 ⟨rfl, rfl⟩
              go_wp2_with fail
              refine (C5.out _).mono ?_
              rintro e w2 ⟨rfl, rfl⟩
              have HF : Hid (rv = true) := Lib.hid (by rw [HRV.out]; simp [formedP, HK.out, X0.out, X2.out, X4.out, X5.out])
              clear hld
              go_wp2
              rw [HPO.out]
              exact ⟨I, (by rw [HF.out]; try rfl), Mem.le_refl _, H1.out.p1.drop⟩
    /-VED4-/
    · /-DEV5-/
      as_aux_lemma =>
      obtain ⟨b0, hb0⟩ : ∃ b, b = inRv z.p 1 4095 := ⟨_, rfl⟩
      have C0 : Hid (∀ w', Calls Tryz.prog 52 #[.int .i64 z.p, .int .i64 1, .int .i64 4095] w' fun e w'' => e = .returned (.bool b0) ∧ w' = w'') := Lib.hid fun w' => by rw [hb0]; exact CW.out _ _ _ w'
      have X0 : Hid (inRv x.p 1 4095 = b0) := Lib.hid (by rw [hb0, HA.out.1.p])
      clear hb0
      obtain ⟨b1, hb1⟩ : ∃ b, b = inRv z.u 0 1 := ⟨_, rfl⟩
      have C1 : Hid (∀ w', Calls Tryz.prog 52 #[.int .i64 z.u, .int .i64 0, .int .i64 1] w' fun e w'' => e = .returned (.bool b1) ∧ w' = w'') := Lib.hid fun w' => by rw [hb1]; exact CW.out _ _ _ w'
      have X1 : Hid (inRv x.u 0 1 = b1) := Lib.hid (by rw [hb1, HA.out.1.u])
      clear hb1
      clear CW
      cases b0 with
      | false =>
        go_wp2_with fail
        refine (C0.out _).mono ?_
        rintro e w2 ⟨rfl, rfl⟩
        have HF : Hid (rv = false) := Lib.hid (by rw [HRV.out]; simp [formedP, HK.out, X0.out])
        clear hld
        go_wp2
        rw [HPO.out]
        exact ⟨I, (by rw [HF.out]; try rfl), Mem.le_refl _, H1.out.p1.drop⟩
      | true =>
        cases b1 with
        | false =>
          go_wp2_with fail
          refine (C0.out _).mono ?_
          rintro e w2 ⟨rfl, rfl⟩
          go_wp2_with fail
          refine (C1.out _).mono ?_
          rintro e w2 ⟨rfl, rfl⟩
          have HF : Hid (rv = false) := Lib.hid (by rw [HRV.out]; simp [formedP, HK.out, X0.out, X1.out])
          clear hld
          go_wp2
          rw [HPO.out]
          exact ⟨I, (by rw [HF.out]; try rfl), Mem.le_refl _, H1.out.p1.drop⟩
        | true =>
          go_wp2_with fail
          refine (C0.out _).mono ?_
          rintro e w2 ⟨rfl, rfl⟩
          go_wp2_with fail
          refine (C1.out _).mono ?_
          rintro e w2 ⟨rfl, rfl⟩
          have HF : Hid (rv = true) := Lib.hid (by rw [HRV.out]; simp [formedP, HK.out, X0.out, X1.out])
          clear hld
          go_wp2
          rw [HPO.out]
          exact ⟨I, (by rw [HF.out]; try rfl), Mem.le_refl _, H1.out.p1.drop⟩
    /-VED5-/
    · /-DEV6-/
      as_aux_lemma =>
      obtain ⟨b0, hb0⟩ : ∃ b, b = inRv z.u 0 255 := ⟨_, rfl⟩
      have C0 : Hid (∀ w', Calls Tryz.prog 52 #[.int .i64 z.u, .int .i64 0, .int .i64 255] w' fun e w'' => e = .returned (.bool b0) ∧ w' = w'') := Lib.hid fun w' => by rw [hb0]; exact CW.out _ _ _ w'
      have X0 : Hid (inRv x.u 0 255 = b0) := Lib.hid (by rw [hb0, HA.out.1.u])
      clear hb0
      clear CW
      cases b0 with
      | false =>
        go_wp2_with fail
        refine (C0.out _).mono ?_
        rintro e w2 ⟨rfl, rfl⟩
        have HF : Hid (rv = false) := Lib.hid (by rw [HRV.out]; simp [formedP, HK.out, X0.out])
        clear hld
        go_wp2
        rw [HPO.out]
        exact ⟨I, (by rw [HF.out]; try rfl), Mem.le_refl _, H1.out.p1.drop⟩
      | true =>
        go_wp2_with fail
        refine (C0.out _).mono ?_
        rintro e w2 ⟨rfl, rfl⟩
        have HF : Hid (rv = true) := Lib.hid (by rw [HRV.out]; simp [formedP, HK.out, X0.out])
        clear hld
        go_wp2
        rw [HPO.out]
        exact ⟨I, (by rw [HF.out]; try rfl), Mem.le_refl _, H1.out.p1.drop⟩
    /-VED6-/
    · /-DEV7-/
      as_aux_lemma =>
      obtain ⟨b0, hb0⟩ : ∃ b, b = inRv z.u 0 255 := ⟨_, rfl⟩
      have C0 : Hid (∀ w', Calls Tryz.prog 52 #[.int .i64 z.u, .int .i64 0, .int .i64 255] w' fun e w'' => e = .returned (.bool b0) ∧ w' = w'') := Lib.hid fun w' => by rw [hb0]; exact CW.out _ _ _ w'
      have X0 : Hid (inRv x.u 0 255 = b0) := Lib.hid (by rw [hb0, HA.out.1.u])
      clear hb0
      clear CW
      cases b0 with
      | false =>
        go_wp2_with fail
        refine (C0.out _).mono ?_
        rintro e w2 ⟨rfl, rfl⟩
        have HF : Hid (rv = false) := Lib.hid (by rw [HRV.out]; simp [formedP, HK.out, X0.out])
        clear hld
        go_wp2
        rw [HPO.out]
        exact ⟨I, (by rw [HF.out]; try rfl), Mem.le_refl _, H1.out.p1.drop⟩
      | true =>
        go_wp2_with fail
        refine (C0.out _).mono ?_
        rintro e w2 ⟨rfl, rfl⟩
        have HF : Hid (rv = true) := Lib.hid (by rw [HRV.out]; simp [formedP, HK.out, X0.out])
        clear hld
        go_wp2
        rw [HPO.out]
        exact ⟨I, (by rw [HF.out]; try rfl), Mem.le_refl _, H1.out.p1.drop⟩
    /-VED7-/
    · /-DEV8-/
      as_aux_lemma =>
      obtain ⟨b0, hb0⟩ : ∃ b, b = inRv z.u 0 255 := ⟨_, rfl⟩
      have C0 : Hid (∀ w', Calls Tryz.prog 52 #[.int .i64 z.u, .int .i64 0, .int .i64 255] w' fun e w'' => e = .returned (.bool b0) ∧ w' = w'') := Lib.hid fun w' => by rw [hb0]; exact CW.out _ _ _ w'
      have X0 : Hid (inRv x.u 0 255 = b0) := Lib.hid (by rw [hb0, HA.out.1.u])
      clear hb0
      obtain ⟨b1, hb1⟩ : ∃ b, b = inRv z.m 1 12 := ⟨_, rfl⟩
      have C1 : Hid (∀ w', Calls Tryz.prog 52 #[.int .i64 z.m, .int .i64 1, .int .i64 12] w' fun e w'' => e = .returned (.bool b1) ∧ w' = w'') := Lib.hid fun w' => by rw [hb1]; exact CW.out _ _ _ w'
      have X1 : Hid (inRv x.m 1 12 = b1) := Lib.hid (by rw [hb1, HA.out.1.m])
      clear hb1
      clear CW
      cases b0 with
      | false =>
        go_wp2_with fail
        refine (C0.out _).mono ?_
        rintro e w2 ⟨rfl, rfl⟩
        have HF : Hid (rv = false) := Lib.hid (by rw [HRV.out]; simp [formedP, HK.out, X0.out])
        clear hld
        go_wp2
        rw [HPO.out]
        exact ⟨I, (by rw [HF.out]; try rfl), Mem.le_refl _, H1.out.p1.drop⟩
      | true =>
        cases b1 with
        | false =>
          go_wp2_with fail
          refine (C0.out _).mono ?_
          rintro e w2 ⟨rfl, rfl⟩
          go_wp2_with fail
          refine (C1.out _).mono ?_
          rintro e w2 ⟨rfl, rfl⟩
          have HF : Hid (rv = false) := Lib.hid (by rw [HRV.out]; simp [formedP, HK.out, X0.out, X1.out])
          clear hld
          go_wp2
          rw [HPO.out]
          exact ⟨I, (by rw [HF.out]; try rfl), Mem.le_refl _, H1.out.p1.drop⟩
        | true =>
          go_wp2_with fail
          refine (C0.out _).mono ?_
          rintro e w2 ⟨rfl, rfl⟩
          go_wp2_with fail
          refine (C1.out _).mono ?_
          rintro e w2 ⟨rfl, rfl⟩
          have HF : Hid (rv = true) := Lib.hid (by rw [HRV.out]; simp [formedP, HK.out, X0.out, X1.out])
          clear hld
          go_wp2
          rw [HPO.out]
          exact ⟨I, (by rw [HF.out]; try rfl), Mem.le_refl _, H1.out.p1.drop⟩
    /-VED8-/
    · /-DEV9-/
      as_aux_lemma =>
      clear CW
      cases lt with
      | false =>
        have HF : Hid (rv = false) := Lib.hid (by rw [HRV.out]; simp [formedP, HK.out, HLT.out])
        clear hld
        go_wp2
        rw [HPO.out]
        exact ⟨I, (by rw [HF.out]; try rfl), Mem.le_refl _, H1.out.p1.drop⟩
      | true =>
        have HF : Hid (rv = true) := Lib.hid (by rw [HRV.out]; simp [formedP, HK.out, HLT.out])
        clear hld
        go_wp2
        rw [HPO.out]
        exact ⟨I, (by rw [HF.out]; try rfl), Mem.le_refl _, H1.out.p1.drop⟩
    /-VED9-/
    · /-DEV10-/
      as_aux_lemma =>
      obtain ⟨b0, hb0⟩ : ∃ b, b = inRv z.p 1 4095 := ⟨_, rfl⟩
      have C0 : Hid (∀ w', Calls Tryz.prog 52 #[.int .i64 z.p, .int .i64 1, .int .i64 4095] w' fun e w'' => e = .returned (.bool b0) ∧ w' = w'') := Lib.hid fun w' => by rw [hb0]; exact CW.out _ _ _ w'
      have X0 : Hid (inRv x.p 1 4095 = b0) := Lib.hid (by rw [hb0, HA.out.1.p])
      clear hb0
      clear CW
      cases b0 with
      | false =>
        go_wp2_with fail
        refine (C0.out _).mono ?_
        rintro e w2 ⟨rfl, rfl⟩
        have HF : Hid (rv = false) := Lib.hid (by rw [HRV.out]; simp [formedP, HK.out, X0.out])
        clear hld
        go_wp2
        rw [HPO.out]
        exact ⟨I, (by rw [HF.out]; try rfl), Mem.le_refl _, H1.out.p1.drop⟩
      | true =>
        go_wp2_with fail
        refine (C0.out _).mono ?_
        rintro e w2 ⟨rfl, rfl⟩
        have HF : Hid (rv = true) := Lib.hid (by rw [HRV.out]; simp [formedP, HK.out, X0.out])
        clear hld
        go_wp2
        rw [HPO.out]
        exact ⟨I, (by rw [HF.out]; try rfl), Mem.le_refl _, H1.out.p1.drop⟩
    /-VED10-/
    · /-DEV11-/
      as_aux_lemma =>
      obtain ⟨b0, hb0⟩ : ∃ b, b = inRv z.p 1 4095 := ⟨_, rfl⟩
      have C0 : Hid (∀ w', Calls Tryz.prog 52 #[.int .i64 z.p, .int .i64 1, .int .i64 4095] w' fun e w'' => e = .returned (.bool b0) ∧ w' = w'') := Lib.hid fun w' => by rw [hb0]; exact CW.out _ _ _ w'
      have X0 : Hid (inRv x.p 1 4095 = b0) := Lib.hid (by rw [hb0, HA.out.1.p])
      clear hb0
      clear CW
      cases b0 with
      | false =>
        go_wp2_with fail
        refine (C0.out _).mono ?_
        rintro e w2 ⟨rfl, rfl⟩
        have HF : Hid (rv = false) := Lib.hid (by rw [HRV.out]; simp [formedP, HK.out, X0.out])
        clear hld
        go_wp2
        rw [HPO.out]
        exact ⟨I, (by rw [HF.out]; try rfl), Mem.le_refl _, H1.out.p1.drop⟩
      | true =>
        go_wp2_with fail
        refine (C0.out _).mono ?_
        rintro e w2 ⟨rfl, rfl⟩
        have HF : Hid (rv = true) := Lib.hid (by rw [HRV.out]; simp [formedP, HK.out, X0.out])
        clear hld
        go_wp2
        rw [HPO.out]
        exact ⟨I, (by rw [HF.out]; try rfl), Mem.le_refl _, H1.out.p1.drop⟩
    /-VED11-/
    · /-DEV12-/
      as_aux_lemma =>
      obtain ⟨b0, hb0⟩ : ∃ b, b = inRv z.u 0 2 := ⟨_, rfl⟩
      have C0 : Hid (∀ w', Calls Tryz.prog 52 #[.int .i64 z.u, .int .i64 0, .int .i64 2] w' fun e w'' => e = .returned (.bool b0) ∧ w' = w'') := Lib.hid fun w' => by rw [hb0]; exact CW.out _ _ _ w'
      have X0 : Hid (inRv x.u 0 2 = b0) := Lib.hid (by rw [hb0, HA.out.1.u])
      obtain ⟨b1, hb1⟩ : ∃ b, b = inRv z.q 0 1 := ⟨_, rfl⟩
      have C1 : Hid (∀ w', Calls Tryz.prog 52 #[.int .i64 z.q, .int .i64 0, .int .i64 1] w' fun e w'' => e = .returned (.bool b1) ∧ w' = w'') := Lib.hid fun w' => by rw [hb1]; exact CW.out _ _ _ w'
      have X1 : Hid (inRv x.q 0 1 = b1) := Lib.hid (by rw [hb1, HA.out.1.q])
      obtain ⟨fb, hfb⟩ : ∃ y, y = listedP x.cl := ⟨_, rfl⟩
      have C : Hid (∀ w' A', Sat W w' (sep (kn I) A') → Calls Tryz.prog 79 #[.slice z.cl.a z.cl.n z.cl.c] w' fun e w'' => e = .returned (.bool fb) ∧ Sat W w'' (sep (kn I) A')) := Lib.hid fun w' A' h' => by rw [hfb]; exact listed18_spec _ _ _ x.cl HA.out.1.cl HA.out.2.cl h'
      have X2 : Hid (listedP x.cl = fb) := Lib.hid hfb.symm
      clear hb0 hb1 hfb CW
      cases b0 with
      | false =>
        go_wp2_with fail
        refine (C0.out _).mono ?_
        rintro e w2 ⟨rfl, rfl⟩
        have HF : Hid (rv = false) := Lib.hid (by rw [HRV.out]; simp [formedP, HK.out, X0.out])
        clear hld k0 k1 k4 k5 k6 k7 k8 k9 k10 k13 k15 k16 k17 k18
        go_wp2
        rw [HPO.out]
        exact ⟨I, (by rw [HF.out]; try rfl), Mem.le_refl _, H1.out.p1.drop⟩
      | true =>
        cases b1 with
        | false =>
          go_wp2_with fail
          refine (C0.out _).mono ?_
          rintro e w2 ⟨rfl, rfl⟩
          go_wp2_with fail
          refine (C1.out _).mono ?_
          rintro e w2 ⟨rfl, rfl⟩
          have HF : Hid (rv = false) := Lib.hid (by rw [HRV.out]; simp [formedP, HK.out, X0.out, X1.out])
          clear hld k0 k1 k4 k5 k6 k7 k8 k9 k10 k13 k15 k16 k17 k18
          go_wp2
          rw [HPO.out]
          exact ⟨I, (by rw [HF.out]; try rfl), Mem.le_refl _, H1.out.p1.drop⟩
        | true =>
          by_cases c : z.u = 2
          · have c' : (z.u != 2) = false := by simp [c]
            have HF : Hid (rv = fb) := Lib.hid (by
              have cx : x.u = 2 := by rw [← HA.out.1.u]; exact c
              rw [HRV.out]; simp [formedP, HK.out, X1.out, X2.out, cx, show inRv 2 0 2 = true from rfl])
            clear c
            go_wp2_with fail
            refine (C0.out _).mono ?_
            rintro e w2 ⟨rfl, rfl⟩
            go_wp2_with fail
            refine (C1.out _).mono ?_
            rintro e w2 ⟨rfl, rfl⟩
            go_wp2_with fail
            refine (C.out _ _ H1.out).mono ?_
            rintro e w2 ⟨rfl, h2⟩
            have H2 := Lib.hid h2.p1.drop
            clear h2 H1 C
            clear hld k0 k1 k4 k5 k6 k7 k8 k9 k10 k13 k15 k16 k17 k18
            go_wp2
            rw [HPO.out]
            exact ⟨I, (by rw [HF.out]; try rfl), Mem.le_refl _, H2.out⟩
          · have c' : (z.u != 2) = true := by simpa using c
            have HF : Hid (rv = true) := Lib.hid (by
              have cx : ¬ x.u = 2 := by rw [← HA.out.1.u]; exact c
              rw [HRV.out]; simp [formedP, HK.out, X0.out, X1.out, cx])
            clear c
            go_wp2_with fail
            refine (C0.out _).mono ?_
            rintro e w2 ⟨rfl, rfl⟩
            go_wp2_with fail
            refine (C1.out _).mono ?_
            rintro e w2 ⟨rfl, rfl⟩
            clear hld
            go_wp2
            rw [HPO.out]
            exact ⟨I, (by rw [HF.out]; try rfl), Mem.le_refl _, H1.out.p1.drop⟩
    /-VED12-/
    · /-DEV13-/
      as_aux_lemma =>
      obtain ⟨cm, hcm⟩ : ∃ y, y = cmp1 z.sn z.sd := ⟨_, rfl⟩
      obtain ⟨ok, hok⟩ : ∃ y, y = okR ⟨z.sn, z.sd⟩ := ⟨_, rfl⟩
      have CM : Hid (∀ w' A', Sat W w' A' → Calls Tryz.prog 80 #[.agg #[.int .i64 z.sn, .int .i64 z.sd], .agg #[.int .i64 1, .int .i64 1]] w' fun e w'' => ∃ ev : Int, e = .returned (.tuple #[.int .i64 cm, .int .i64 ev]) ∧ Sat W w'' A') := Lib.hid fun w' A' h' => by rw [hcm]; exact rcmp1_spec _ _ h'
      have CV : Hid (∀ w' A', Sat W w' A' → Calls Tryz.prog 81 #[.agg #[.int .i64 z.sn, .int .i64 z.sd]] w' fun e w'' => e = .returned (.int .i64 (r01 ok)) ∧ Sat W w'' A') := Lib.hid fun w' A' h' => by rw [hok]; exact rvalidR_spec _ _ h'
      have HS : Hid (shareOK x.sn x.sd = (ok && (decide (0 < z.sn) && decide (z.sn ≤ z.sd)))) := Lib.hid (by unfold shareOK; rw [hok, HA.out.1.sn, HA.out.1.sd])
      have HC : Hid (ok = true → cm = if z.sn < z.sd then -1 else if z.sd < z.sn then 1 else 0) := Lib.hid (fun hh => by rw [hcm]; unfold cmp1; rw [if_pos (hok ▸ hh)])
      clear hcm hok CW
      go_wp2_with fail
      refine (CM.out _ _ H1.out).mono ?_
      rintro e w2 ⟨ev, rfl, h2⟩
      clear k0 k1 k4 k5 k6 k7 k8 k9 k10 k13 k15 k16 k17 k18 hld
      have k9 := (act_fr h2.p1 9 _ rfl).1
      have k10 := (act_fr h2.p1 10 _ rfl).1
      have H2 := Lib.hid h2
      clear h2 H1 CM
      cases pa with
      | false =>
        have HF : Hid (rv = false) := Lib.hid (by rw [HRV.out]; simp [formedP, HK.out, HPA.out])
        clear k9 k10
        go_wp2
        rw [HPO.out]
        exact ⟨I, (by rw [HF.out]; try rfl), Mem.le_refl _, H2.out.p1.drop⟩
      | true =>
        go_wp2_with fail
        refine (CV.out _ _ H2.out).mono ?_
        rintro e w3 ⟨rfl, h3⟩
        clear k9 k10
        have k9 := (act_fr h3.p1 9 _ rfl).1
        have H3 := Lib.hid h3
        clear h3 H2 CV
        cases ok with
        | false =>
          have HF : Hid (rv = false) := Lib.hid (by rw [HRV.out]; simp [formedP, HK.out, HS.out])
          unfold r01
          clear k9
          go_wp2
          rw [HPO.out]
          exact ⟨I, (by rw [HF.out]; try rfl), Mem.le_refl _, H3.out.p1.drop⟩
        | true =>
          unfold r01
          by_cases c : 0 < z.sn
          · by_cases c1 : z.sn ≤ z.sd
            · have hc : cm ≤ 0 := by rw [HC.out (by first | rfl | trivial)]; split; omega; rw [if_neg (by omega)]; omega
              have HF : Hid (rv = true) := Lib.hid (by rw [HRV.out]; simp [formedP, HK.out, HS.out, HPA.out, c, c1])
              clear c1
              go_wp2
              rw [HPO.out]
              exact ⟨I, (by rw [HF.out]; first | rfl | (show Ending.returned (.bool (decide (cm ≤ 0))) = _; rw [decide_eq_true hc]) | (show Ending.returned (.bool (decide (cm ≤ 0))) = _; rw [decide_eq_false (Int.not_le.2 hc)])), Mem.le_refl _, H3.out.p1.drop⟩
            · have hc : ¬ cm ≤ 0 := by rw [HC.out (by first | rfl | trivial), if_neg (by omega), if_pos (by omega)]; omega
              have HF : Hid (rv = false) := Lib.hid (by rw [HRV.out]; simp [formedP, HK.out, HS.out, c1])
              clear c1
              go_wp2
              rw [HPO.out]
              exact ⟨I, (by rw [HF.out]; first | rfl | (show Ending.returned (.bool (decide (cm ≤ 0))) = _; rw [decide_eq_true hc]) | (show Ending.returned (.bool (decide (cm ≤ 0))) = _; rw [decide_eq_false (Int.not_le.2 hc)])), Mem.le_refl _, H3.out.p1.drop⟩
          · have HF : Hid (rv = false) := Lib.hid (by rw [HRV.out]; simp [formedP, HK.out, HS.out, c])
            go_wp2
            rw [HPO.out]
            exact ⟨I, (by rw [HF.out]; try rfl), Mem.le_refl _, H3.out.p1.drop⟩
    /-VED13-/
    · /-DEV14-/
      as_aux_lemma =>
      clear CW
      cases pa with
      | false =>
        have HF : Hid (rv = false) := Lib.hid (by rw [HRV.out]; simp [formedP, HK.out, HPA.out])
        clear hld
        go_wp2
        rw [HPO.out]
        exact ⟨I, (by rw [HF.out]; try rfl), Mem.le_refl _, H1.out.p1.drop⟩
      | true =>
        cases lt with
        | false =>
          have HF : Hid (rv = false) := Lib.hid (by rw [HRV.out]; simp [formedP, HK.out, HPA.out, HLT.out])
          clear hld
          go_wp2
          rw [HPO.out]
          exact ⟨I, (by rw [HF.out]; try rfl), Mem.le_refl _, H1.out.p1.drop⟩
        | true =>
          have HF : Hid (rv = true) := Lib.hid (by rw [HRV.out]; simp [formedP, HK.out, HPA.out, HLT.out])
          clear hld
          go_wp2
          rw [HPO.out]
          exact ⟨I, (by rw [HF.out]; try rfl), Mem.le_refl _, H1.out.p1.drop⟩
    /-VED14-/
    · /-DEV15-/
      as_aux_lemma =>
      obtain ⟨b0, hb0⟩ : ∃ b, b = inRv z.u 0 7 := ⟨_, rfl⟩
      have C0 : Hid (∀ w', Calls Tryz.prog 52 #[.int .i64 z.u, .int .i64 0, .int .i64 7] w' fun e w'' => e = .returned (.bool b0) ∧ w' = w'') := Lib.hid fun w' => by rw [hb0]; exact CW.out _ _ _ w'
      have X0 : Hid (inRv x.u 0 7 = b0) := Lib.hid (by rw [hb0, HA.out.1.u])
      clear hb0
      clear CW
      cases b0 with
      | false =>
        go_wp2_with fail
        refine (C0.out _).mono ?_
        rintro e w2 ⟨rfl, rfl⟩
        have HF : Hid (rv = false) := Lib.hid (by rw [HRV.out]; simp [formedP, HK.out, X0.out])
        clear hld
        go_wp2
        rw [HPO.out]
        exact ⟨I, (by rw [HF.out]; try rfl), Mem.le_refl _, H1.out.p1.drop⟩
      | true =>
        go_wp2_with fail
        refine (C0.out _).mono ?_
        rintro e w2 ⟨rfl, rfl⟩
        have HF : Hid (rv = true) := Lib.hid (by rw [HRV.out]; simp [formedP, HK.out, X0.out])
        clear hld
        go_wp2
        rw [HPO.out]
        exact ⟨I, (by rw [HF.out]; try rfl), Mem.le_refl _, H1.out.p1.drop⟩
    /-VED15-/
    · /-DEV16-/
      as_aux_lemma =>
      have C : Hid (∀ w' A', Sat W w' (sep (kn I) A') → Calls Tryz.prog 57 #[.agg #[.int .i64 z.fo, .int .i64 z.fn, .slice z.fi.a z.fi.n z.fi.c, .slice z.fk.a z.fk.n z.fk.c]] w' fun e w'' => e = .returned (.int .i64 (fmE x.fx)) ∧ Sat W w'' (sep (kn I) A')) := Lib.hid fun w' A' h' => r07valid_spec x.fx _ _ _ _ _ _ _ _ HA.out.1.fx HA.out.2.fx h'
      have HF : Hid (rv = decide (fmE x.fx = 0)) := Lib.hid (by rw [HRV.out]; simp [formedP, HK.out])
      clear CW
      go_wp2_with fail
      refine (C.out _ _ H1.out).mono ?_
      rintro e w2 ⟨rfl, h2⟩
      have H2 := Lib.hid h2.p1.drop
      clear h2 H1 C hld k0 k1 k4 k5 k6 k7 k8 k9 k10 k13 k15 k16 k17 k18
      go_wp2
      rw [HPO.out]
      refine ⟨I, ?_, Mem.le_refl _, H2.out⟩
      rw [HF.out]
      first
        | rfl
        | (by_cases hh : fmE x.fx = 0 <;> simp [hh])
    /-VED16-/
    · /-DEV17-/
      as_aux_lemma =>
      obtain ⟨b0, hb0⟩ : ∃ b, b = inRv z.o 0 11 := ⟨_, rfl⟩
      have C0 : Hid (∀ w', Calls Tryz.prog 52 #[.int .i64 z.o, .int .i64 0, .int .i64 11] w' fun e w'' => e = .returned (.bool b0) ∧ w' = w'') := Lib.hid fun w' => by rw [hb0]; exact CW.out _ _ _ w'
      have X0 : Hid (inRv x.o 0 11 = b0) := Lib.hid (by rw [hb0, HA.out.1.o])
      clear hb0
      clear CW
      cases b0 with
      | false =>
        go_wp2_with fail
        refine (C0.out _).mono ?_
        rintro e w2 ⟨rfl, rfl⟩
        have HF : Hid (rv = false) := Lib.hid (by rw [HRV.out]; simp [formedP, HK.out, X0.out])
        clear hld
        go_wp2
        rw [HPO.out]
        exact ⟨I, (by rw [HF.out]; try rfl), Mem.le_refl _, H1.out.p1.drop⟩
      | true =>
        cases lt with
        | false =>
          go_wp2_with fail
          refine (C0.out _).mono ?_
          rintro e w2 ⟨rfl, rfl⟩
          have HF : Hid (rv = false) := Lib.hid (by rw [HRV.out]; simp [formedP, HK.out, X0.out, HLT.out])
          clear hld
          go_wp2
          rw [HPO.out]
          exact ⟨I, (by rw [HF.out]; try rfl), Mem.le_refl _, H1.out.p1.drop⟩
        | true =>
          go_wp2_with fail
          refine (C0.out _).mono ?_
          rintro e w2 ⟨rfl, rfl⟩
          have HF : Hid (rv = true) := Lib.hid (by rw [HRV.out]; simp [formedP, HK.out, X0.out, HLT.out])
          clear hld
          go_wp2
          rw [HPO.out]
          exact ⟨I, (by rw [HF.out]; try rfl), Mem.le_refl _, H1.out.p1.drop⟩
    /-VED17-/
    · /-DEV18-/
      as_aux_lemma =>
      obtain ⟨b0, hb0⟩ : ∃ b, b = inRv z.o 0 11 := ⟨_, rfl⟩
      have C0 : Hid (∀ w', Calls Tryz.prog 52 #[.int .i64 z.o, .int .i64 0, .int .i64 11] w' fun e w'' => e = .returned (.bool b0) ∧ w' = w'') := Lib.hid fun w' => by rw [hb0]; exact CW.out _ _ _ w'
      have X0 : Hid (inRv x.o 0 11 = b0) := Lib.hid (by rw [hb0, HA.out.1.o])
      clear hb0
      obtain ⟨b1, hb1⟩ : ∃ b, b = inRv z.u 0 18 := ⟨_, rfl⟩
      have C1 : Hid (∀ w', Calls Tryz.prog 52 #[.int .i64 z.u, .int .i64 0, .int .i64 18] w' fun e w'' => e = .returned (.bool b1) ∧ w' = w'') := Lib.hid fun w' => by rw [hb1]; exact CW.out _ _ _ w'
      have X1 : Hid (inRv x.u 0 18 = b1) := Lib.hid (by rw [hb1, HA.out.1.u])
      clear hb1
      obtain ⟨b2, hb2⟩ : ∃ b, b = inRv z.m 0 1099511627776 := ⟨_, rfl⟩
      have C2 : Hid (∀ w', Calls Tryz.prog 52 #[.int .i64 z.m, .int .i64 0, .int .i64 1099511627776] w' fun e w'' => e = .returned (.bool b2) ∧ w' = w'') := Lib.hid fun w' => by rw [hb2]; exact CW.out _ _ _ w'
      have X2 : Hid (inRv x.m 0 1099511627776 = b2) := Lib.hid (by rw [hb2, HA.out.1.m])
      clear hb2
      clear CW
      cases b0 with
      | false =>
        go_wp2_with fail
        refine (C0.out _).mono ?_
        rintro e w2 ⟨rfl, rfl⟩
        have HF : Hid (rv = false) := Lib.hid (by rw [HRV.out]; simp [formedP, HK.out, X0.out])
        clear hld
        go_wp2
        rw [HPO.out]
        exact ⟨I, (by rw [HF.out]; try rfl), Mem.le_refl _, H1.out.p1.drop⟩
      | true =>
        cases b1 with
        | false =>
          go_wp2_with fail
          refine (C0.out _).mono ?_
          rintro e w2 ⟨rfl, rfl⟩
          go_wp2_with fail
          refine (C1.out _).mono ?_
          rintro e w2 ⟨rfl, rfl⟩
          have HF : Hid (rv = false) := Lib.hid (by rw [HRV.out]; simp [formedP, HK.out, X0.out, X1.out])
          clear hld
          go_wp2
          rw [HPO.out]
          exact ⟨I, (by rw [HF.out]; try rfl), Mem.le_refl _, H1.out.p1.drop⟩
        | true =>
          cases b2 with
          | false =>
            go_wp2_with fail
            refine (C0.out _).mono ?_
            rintro e w2 ⟨rfl, rfl⟩
            go_wp2_with fail
            refine (C1.out _).mono ?_
            rintro e w2 ⟨rfl, rfl⟩
            go_wp2_with fail
            refine (C2.out _).mono ?_
            rintro e w2 ⟨rfl, rfl⟩
            have HF : Hid (rv = false) := Lib.hid (by rw [HRV.out]; simp [formedP, HK.out, X0.out, X1.out, X2.out])
            clear hld
            go_wp2
            rw [HPO.out]
            exact ⟨I, (by rw [HF.out]; try rfl), Mem.le_refl _, H1.out.p1.drop⟩
          | true =>
            go_wp2_with fail
            refine (C0.out _).mono ?_
            rintro e w2 ⟨rfl, rfl⟩
            go_wp2_with fail
            refine (C1.out _).mono ?_
            rintro e w2 ⟨rfl, rfl⟩
            go_wp2_with fail
            refine (C2.out _).mono ?_
            rintro e w2 ⟨rfl, rfl⟩
            have HF : Hid (rv = true) := Lib.hid (by rw [HRV.out]; simp [formedP, HK.out, X0.out, X1.out, X2.out])
            clear hld
            go_wp2
            rw [HPO.out]
            exact ⟨I, (by rw [HF.out]; try rfl), Mem.le_refl _, H1.out.p1.drop⟩
    /-VED18-/
    · /-DEV19-/
      as_aux_lemma =>
      have n0 : (kz == 0) = false := by simp; omega
      have n3 : (kz == 3) = false := by simp; omega
      have n15 : (kz == 15) = false := by simp; omega
      have n4 : (kz == 4) = false := by simp; omega
      have n5 : (kz == 5) = false := by simp; omega
      have n6 : (kz == 6) = false := by simp; omega
      have n7 : (kz == 7) = false := by simp; omega
      have n8 : (kz == 8) = false := by simp; omega
      have n9 : (kz == 9) = false := by simp; omega
      have n12 : (kz == 12) = false := by simp; omega
      have n14 : (kz == 14) = false := by simp; omega
      have n13 : (kz == 13) = false := by simp; omega
      have n16 : (kz == 16) = false := by simp; omega
      have n17 : (kz == 17) = false := by simp; omega
      have n18 : (kz == 18) = false := by simp; omega
      have n19 : (kz == 19) = false := by simp; omega
      have n20 : (kz == 20) = false := by simp; omega
      have n21 : (kz == 21) = false := by simp; omega
      have HF : Hid (rv = true) := Lib.hid (by rw [HRV.out]; simp [formedP, HK.out, hn])
      clear hn CW hld
      go_wp2
      rw [HPO.out]
      exact ⟨I, (by rw [HF.out]; try rfl), Mem.le_refl _, H1.out.p1.drop⟩
    /-VED19-/
end Go.Proofs.YtodipneapffjdaaGreatDoor
