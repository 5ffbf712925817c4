/- Title's script. -/
import Derived.Test.YtfapiopnjllnnaaGreatDoorGTitleApart27
import Derived.Great.BuildSlice
namespace Go.Proofs.YtfapiopnjllnnaaGreatDoor
open Go.RowKit PA

theorem infoRatioT : (Tryz.prog.info? 44).map (fun i => (i.zero, i.size, i.bytes)) = some (some (.agg #[.int .i64 0, .int .i64 0]), 2, 16) := by kernel_rfl
def bsRat (p : Array (Nat × Value)) : Sem Value := Instr.buildSlice 42 7 p
theorem buildSlice_rat (p : Array (Nat × Value)) : Instr.buildSlice 42 7 p = bsRat p := rfl
def bsAct (p : Array (Nat × Value)) : Sem Value := Instr.buildSlice 29 1 p
theorem buildSlice_act (p : Array (Nat × Value)) : Instr.buildSlice 29 1 p = bsAct p := rfl
theorem bs_shares (w : World) : (bsRat #[(0, .agg #[.int .i64 1, .int .i64 1]), (1, .agg #[.int .i64 1, .int .i64 2]), (2, .agg #[.int .i64 1, .int .i64 3]), (3, .agg #[.int .i64 2, .int .i64 3]), (4, .agg #[.int .i64 1, .int .i64 6]), (5, .agg #[.int .i64 1, .int .i64 1048576]), (6, .agg #[.int .i64 1, .int .i64 1048575])]).run Tryz.prog w = .ok (.slice (some ⟨w.heap.size, 0, none⟩) 7 7) (w.alloc (.cells #[.int .i64 1, .int .i64 1, .int .i64 1, .int .i64 2, .int .i64 1, .int .i64 3, .int .i64 2, .int .i64 3, .int .i64 1, .int .i64 6, .int .i64 1, .int .i64 1048576, .int .i64 1, .int .i64 1048575] 44)) := by
  obtain ⟨i, h1, h2, h3, h4⟩ := info_parts infoRatioT
  exact run_buildSlice w 42 44 7 _ _ i _ Tryz.underlying42 h1 h2 (by rw [h3]; omega) (by rw [h3]; omega) (by rw [h3]; kernel_rfl)
theorem bs_act (z : Ac) (w : World) : (bsAct #[(0, .agg #[.int .i64 z.k, .int .i64 z.d, .int .i64 z.n, .int .i64 z.f, .int .i64 z.o, .int .i64 z.p, .int .i64 z.q, .int .i64 z.u, .int .i64 z.m, .int .i64 z.sn, .int .i64 z.sd, .slice z.td.a z.td.n z.td.c, .slice z.tc.a z.tc.n z.tc.c, .slice z.cl.a z.cl.n z.cl.c, .slice z.ea.a z.ea.n z.ea.c, .int .i64 z.fo, .int .i64 z.fn, .slice z.fi.a z.fi.n z.fi.c, .slice z.fk.a z.fk.n z.fk.c])]).run Tryz.prog w = .ok (.slice (some ⟨w.heap.size, 0, none⟩) 1 1) (w.alloc (.cells #[.int .i64 z.k, .int .i64 z.d, .int .i64 z.n, .int .i64 z.f, .int .i64 z.o, .int .i64 z.p, .int .i64 z.q, .int .i64 z.u, .int .i64 z.m, .int .i64 z.sn, .int .i64 z.sd, .slice z.td.a z.td.n z.td.c, .slice z.tc.a z.tc.n z.tc.c, .slice z.cl.a z.cl.n z.cl.c, .slice z.ea.a z.ea.n z.ea.c, .int .i64 z.fo, .int .i64 z.fn, .slice z.fi.a z.fi.n z.fi.c, .slice z.fk.a z.fk.n z.fk.c] 57)) := by
  obtain ⟨i, h1, h2, h3, h4⟩ := info_parts infoAct
  exact run_buildSlice w 29 57 1 _ _ i _ Tryz.underlying29 h1 h2 (by rw [h3]; omega) (by rw [h3]; omega) (by rw [h3]; kernel_rfl)
attribute [local go_sem ↓] storeAt_act loadAt_act buildSlice_rat buildSlice_act
attribute [local go_sem] st_lit
set_option maxRecDepth 100000 in
set_option maxHeartbeats 8000000 in
theorem script25_own {W w : World} {A : Assn} {I : Mem} (a : Option Addr) (c : Nat) (l : List Int) (hv : (rInt.slice 1).rel I [.slice a l.length c] l) (hl : ∀ z ∈ l, I64' z) (h : Sat W w (sep (kn I) A)) :
    Calls Tryz.prog 21 #[.slice a l.length c] w fun e w' => ∃ a' n c', e = .returned (.slice a' n c') ∧ n = (scrP l).length ∧ Sat W w' (sep (osl 57 19 a' n c' (acs (scrP l))) (sep (kn I) A)) := by
  have HPK : Hid (∀ (i : Nat) (n : Int) (w' : World) (A' : Assn), 0 < n → n ≤ 1048576 → i ≤ 1000 → Sat W w' (sep (kn I) A') → Calls Tryz.prog 37 #[.slice a l.length c, .int .i64 i, .int .i64 n] w' fun e w'' => e = .returned (.int .i64 (pickP l i n)) ∧ w' = w'') :=
    Lib.hid fun i n w' A' q1 q2 q3 q4 => pick25_spec a c l i n q1 (by omega) q3 hv hl q4
  have hl0 := lit_oslT (E := 57) (k := 19) h (acs [fil2, fil7]) 2 rfl (by unfold maxLen; omega)
  obtain ⟨B, hB⟩ : ∃ B, B = w.heap.size := ⟨_, rfl⟩
  obtain ⟨w1, hw1⟩ : ∃ w1, w1 = w.alloc (.cells (acs [fil2, fil7]).toArray 57) := ⟨_, rfl⟩
  rw [← hB, ← hw1] at hl0
  have hlen : (l.length : Int) ≤ 9223372036854775807 := by
    obtain ⟨a', c', e, hsw, -⟩ := ints_rel.1 hv
    have h1 := hsw.1; have h2 := hsw.2.1; unfold maxLen at h2; omega
  obtain ⟨ll, hll⟩ : ∃ ll, ll = l.length := ⟨_, rfl⟩
  rw [← hll] at hlen HPK ⊢
  have HLL := Lib.hid hll
  have HB := Lib.hid hB
  have HW1 := Lib.hid hw1
  have HL0 := Lib.hid hl0
  clear hv hl h hl0 hB hw1 hll
  go_enter Tryz.func21, Tryz.ntmps21
  go_upto_region 2 with (fail)
  rw [← HB.out]
  change Code.wp _ _ _ _ (w.alloc (.cells (acs [fil2, fil7]).toArray 57))
  rw [← HW1.out]
  generalize Value.agg #[.int .i64 0, .int .i64 100, .int .i64 0, .int .i64 2, .int .i64 0, .int .i64 1, .int .i64 (-1), .int .i64 0, .int .i64 0, .int .i64 0, .int .i64 0, .slice none 0 0, .slice none 0 0, .slice none 0 0, .slice none 0 0, .int .i64 0, .int .i64 0, .slice none 0 0, .slice none 0 0] = v8
  generalize Value.agg #[.int .i64 0, .int .i64 90, .int .i64 1, .int .i64 7, .int .i64 0, .int .i64 2, .int .i64 (-1), .int .i64 0, .int .i64 0, .int .i64 0, .int .i64 0, .slice none 0 0, .slice none 0 0, .slice none 0 0, .slice none 0 0, .int .i64 0, .int .i64 0, .slice none 0 0, .slice none 0 0] = v9
  go_wp2
  go_loopw [4, 3] (fun iv ov wr => ∃ (i n1 : Nat) (a1 : Option Addr) (c1 : Nat) (vs : List Value), iv = .int .i64 i ∧ i ≤ 12 ∧ ov = .slice a1 n1 c1 ∧ Hid (i ≤ scrN l ∧ vs = acs ([fil2, fil7] ++ (List.range i).map (actP l))) ∧ n1 = i + 2 ∧ Sat W wr (sep (osl 57 19 a1 n1 c1 vs) (sep (kn I) A))) (fun iv _ _ => 13 - (intOf iv).toNat)
  case atStart => exact ⟨0, 2, _, _, _, rfl, by omega, rfl, Lib.hid ⟨by omega, rfl⟩, rfl, HL0.out⟩
  case round =>
    obtain ⟨i, n1, a1, c1, vs, rfl, hi, rfl, HV, hn1, hS⟩ := hrel
    have HN1 := Lib.hid hn1
    have hn114 : n1 ≤ 14 := by omega
    clear hn1
    by_cases hlt : i < scrN l
    · as_aux_lemma =>
      have hg : 3 * i < ll ∧ i < 12 := by
        rw [HLL.out]
        unfold scrN at hlt
        omega
      have hg1 : 3 * (i : Int) < (ll : Int) := by omega
      have hg2 : (i : Int) < 12 := by omega
      obtain ⟨j1, hj1⟩ : ∃ j, j = 3 * i := ⟨_, rfl⟩
      obtain ⟨j2, hj2⟩ : ∃ j, j = 3 * i + 1 := ⟨_, rfl⟩
      obtain ⟨j3, hj3⟩ : ∃ j, j = 3 * i + 2 := ⟨_, rfl⟩
      have e1 : 3 * (i : Int) = (j1 : Int) := by omega
      have e2 : (j1 : Int) + 1 = (j2 : Int) := by omega
      have e3 : (j1 : Int) + 2 = (j3 : Int) := by omega
      obtain ⟨kk, hkk, hkl⟩ := pickP_nat l j1 1048576 (by omega)
      obtain ⟨nn, hnn, hnl⟩ := pickP_nat l j2 1048576 (by omega)
      obtain ⟨dd, hdd, hdl⟩ := pickP_nat l j3 40 (by omega)
      have p1 := HPK.out j1 1048576 wr _ (by omega) (by omega) (by omega) hS.p1
      have p2 := HPK.out j2 1048576 wr _ (by omega) (by omega) (by omega) hS.p1
      have p3 := HPK.out j3 40 wr _ (by omega) (by omega) (by omega) hS.p1
      rw [hkk] at p1
      rw [hnn] at p2
      rw [hdd] at p3
      have P1 := Lib.hid p1
      have P2 := Lib.hid p2
      have P3 := Lib.hid p3
      have HACT : Hid (actP l i = actN kk nn dd i) := Lib.hid (by unfold actP; rw [← hj2, ← hj3, ← hj1, hkk, hnn, hdd]; simp)
      obtain ⟨k4, hk4⟩ : ∃ k, k = kk % 4 := ⟨_, rfl⟩
      obtain ⟨kq, hkq⟩ : ∃ k, k = kk / 4 := ⟨_, rfl⟩
      obtain ⟨k3, hk3⟩ : ∃ k, k = kq % 3 := ⟨_, rfl⟩
      obtain ⟨s, hs⟩ : ∃ k, k = (k4 + 1 + k3) % 4 := ⟨_, rfl⟩
      obtain ⟨k11, hk11⟩ : ∃ k, k = kk % 11 := ⟨_, rfl⟩
      obtain ⟨k5, hk5⟩ : ∃ k, k = kk % 5 := ⟨_, rfl⟩
      obtain ⟨k23, hk23⟩ : ∃ k, k = kk % 23 := ⟨_, rfl⟩
      obtain ⟨n30, hn30⟩ : ∃ k, k = nn % 30 := ⟨_, rfl⟩
      obtain ⟨n7, hn7⟩ : ∃ k, k = nn % 7 := ⟨_, rfl⟩
      have t4 : (kk : Int).tmod 4 = (k4 : Int) := by rw [Int.tmod_eq_emod_of_nonneg (by omega)]; omega
      have tq : (kk : Int).tdiv 4 = (kq : Int) := by rw [Int.tdiv_eq_ediv_of_nonneg (by omega)]; omega
      have t3 : (kq : Int).tmod 3 = (k3 : Int) := by rw [Int.tmod_eq_emod_of_nonneg (by omega)]; omega
      have ts : ((k4 : Int) + 1 + (k3 : Int)).tmod 4 = (s : Int) := by rw [Int.tmod_eq_emod_of_nonneg (by omega)]; omega
      have t11 : (kk : Int).tmod 11 = (k11 : Int) := by rw [Int.tmod_eq_emod_of_nonneg (by omega)]; omega
      have t5 : (kk : Int).tmod 5 = (k5 : Int) := by rw [Int.tmod_eq_emod_of_nonneg (by omega)]; omega
      have t23 : (kk : Int).tmod 23 = (k23 : Int) := by rw [Int.tmod_eq_emod_of_nonneg (by omega)]; omega
      have t30 : (nn : Int).tmod 30 = (n30 : Int) := by rw [Int.tmod_eq_emod_of_nonneg (by omega)]; omega
      have t7 : (nn : Int).tmod 7 = (n7 : Int) := by rw [Int.tmod_eq_emod_of_nonneg (by omega)]; omega
      have HT3 := Lib.hid (And.intro t11 (And.intro t5 (And.intro t23 (And.intro t30 t7))))
      have HT4 := Lib.hid (And.intro t4 (And.intro tq (And.intro t3 ts)))
      have HBD : Hid ((k4 < 4 ∧ k3 < 3 ∧ s < 4 ∧ n7 < 7 ∧ n30 < 30) ∧ i ≤ 12 ∧ (kk : Int) < 1048576 ∧ (nn : Int) < 1048576 ∧ (dd : Int) < 40) := Lib.hid (by omega)
      have HK := Lib.hid (And.intro hk4 (And.intro hkq (And.intro hk3 (And.intro hs (And.intro hk11 (And.intro hk5 (And.intro hk23 (And.intro hn30 hn7))))))))
      have HS := Lib.hid hS
      have HG := Lib.hid (And.intro hg hlt)
      clear p1 p2 p3 hkk hnn hdd hj1 hj2 hj3 hk4 hkq hk3 hs hk11 hk5 hk23 hn30 hn7 t11 t5 t23 t30 t7 hS hg t4 tq t3 ts hi hkl hnl hdl hlt
      go_wp2_with fail
      refine P1.out.mono ?_
      rintro e w2 ⟨rfl, rfl⟩
      clear P1
      go_wp2_with fail
      refine P2.out.mono ?_
      rintro e w2 ⟨rfl, rfl⟩
      clear P2
      go_wp2_with fail
      refine P3.out.mono ?_
      rintro e w2 ⟨rfl, rfl⟩
      clear P3 e1 e2 e3 hg1
      obtain ⟨t4, tq, t3, ts⟩ := HT4.out
      have bk : (kk : Int) < 1048576 := HBD.out.2.2.1
      have bd : (dd : Int) < 40 := HBD.out.2.2.2.2
      have b4 : (k4 : Int) < 4 := by have := HBD.out.1.1; omega
      clear tq t3 ts
      go_upto_region 8 with (fail)
      have hx1 : act1 kk i dd = ⟨16, 95 + (dd : Int), 5 + 2 * (i : Int), 2, 0, 1 + (k4 : Int), 1 + (s : Int), 0, 0, 0, 0, Sv.none, Sv.none, Sv.none, Sv.none, 0, 0, Sv.none, Sv.none⟩ := by
        unfold act1 acNum
        rw [HK.out.2.2.2.1, HK.out.2.2.1, HK.out.2.1, HK.out.1]
      obtain ⟨q, hq⟩ : ∃ q, q = wr.heap.size := ⟨_, rfl⟩
      have hal := HS.out.alloc (.cells (act1 kk i dd).cells.toArray 57)
      rw [hx1, ← hq] at hal
      have HAL := Lib.hid hal
      have HQ := Lib.hid hq
      obtain ⟨t4, tq, t3, ts⟩ := HT4.out
      obtain ⟨t11, t5, t23, t30, t7⟩ := HT3.out
      have b3 : (k3 : Int) < 3 := by have := HBD.out.1.2.1; omega
      have bq : (kq : Int) < 1048576 := by have := HK.out.2.1; have := HBD.out.2.2.1; omega
      have bs : (s : Int) < 4 := by have := HBD.out.1.2.2.1; omega
      have b11 : (k11 : Int) < 11 := by have := HK.out.2.2.2.2.1; omega
      have b5 : (k5 : Int) < 5 := by have := HK.out.2.2.2.2.2.1; omega
      have b23 : (k23 : Int) < 23 := by have := HK.out.2.2.2.2.2.2.1; omega
      clear hal hq t5 t23 t30 t7
      go_upto_if 56 with (fail)
      go_cut [] (fun wx => ∃ x : Ac, Hid (x = act2 kk (act1 kk i dd)) ∧ Sat W wx (sep (blk q (.cells x.cells.toArray 57 (0, 0))) (sep (osl 57 19 a1 n1 c1 vs) (sep (kn I) A))))
      case first =>
       as_aux_lemma =>
        /-DEV1-/
        by_cases e11 : kk % 11 = 10
        · have k11z : (k11 : Int) = 10 := by have := HK.out.2.2.2.2.1; omega
          rw [show ((k11 : Int) == 10) = true by rw [k11z]; rfl]
          have HE := Lib.hid e11
          clear e11
          go_wp2
          go_meet
          case rel =>
            refine ⟨act2 kk (act1 kk i dd), Lib.hid rfl, ?_⟩
            have e : act2 kk (act1 kk i dd) = ⟨16, 95 + (dd : Int), 5 + 2 * (i : Int), 7, 0, 1 + (k4 : Int), 1 + (s : Int), 0, 0, 0, 0, Sv.none, Sv.none, Sv.none, Sv.none, 0, 0, Sv.none, Sv.none⟩ := by
              unfold act2; rw [if_pos HE.out, hx1]
            rw [e]
            have h9 := HS.out.alloc (.cells (Ac.cells ⟨16, 95 + (dd : Int), 5 + 2 * (i : Int), 7, 0, 1 + (k4 : Int), 1 + (s : Int), 0, 0, 0, 0, Sv.none, Sv.none, Sv.none, Sv.none, 0, 0, Sv.none, Sv.none⟩).toArray 57)
            rw [← HQ.out] at h9
            exact h9
        · have k11z : ¬ (k11 : Int) = 10 := by have := HK.out.2.2.2.2.1; omega
          rw [show ((k11 : Int) == 10) = false by simpa using k11z]
          have HE := Lib.hid e11
          clear e11
          go_wp2
          go_meet
          case rel =>
            refine ⟨act2 kk (act1 kk i dd), Lib.hid rfl, ?_⟩
            have e : act2 kk (act1 kk i dd) = act1 kk i dd := by unfold act2; rw [if_neg HE.out]
            rw [e, hx1]
            have h9 := HS.out.alloc (.cells (Ac.cells ⟨16, 95 + (dd : Int), 5 + 2 * (i : Int), 2, 0, 1 + (k4 : Int), 1 + (s : Int), 0, 0, 0, 0, Sv.none, Sv.none, Sv.none, Sv.none, 0, 0, Sv.none, Sv.none⟩).toArray 57)
            rw [← HQ.out] at h9
            exact h9
        /-VED1-/
      case rest =>
       as_aux_lemma =>
        rw [← HQ.out]
        obtain ⟨x, hx, h2⟩ := hcut
        have hxd : x.d = 95 + (dd : Int) := by
          rw [hx.out]; unfold act2; split <;> rw [hx1]
        obtain ⟨xd, hxd'⟩ : ∃ z, z = x.d := ⟨_, rfl⟩
        have bxd : 0 ≤ xd ∧ xd < 200 := by have := HBD.out.2.2.2.2; omega
        have bxd1 := bxd.1
        have bxd2 := bxd.2
        obtain ⟨f0a, f0b⟩ := act_fr h2 0 (.int .i64 x.k) rfl
        obtain ⟨f1a, f1b⟩ := act_fr h2 1 (.int .i64 x.d) rfl
        obtain ⟨f7a, f7b⟩ := act_fr h2 7 (.int .i64 x.u) rfl
        rw [← hxd'] at f1a
        have HX := Lib.hid (And.intro hx.out hxd')
        have H2 := Lib.hid h2
        have bn30 : (n30 : Int) < 30 := by have := HBD.out.1.2.2.2.2; omega
        obtain ⟨-, t5, t23, t30, t7⟩ := HT3.out
        clear hx hxd hxd' bxd h2 HAL hx1 t4 tq t3 ts t11 b3 bq bs b11 bk bd b4
        go_upto_if 60 with (fail)
        go_cut [] (fun wx => ∃ x' : Ac, Hid (x' = act3 kk nn x) ∧ Sat W wx (sep (blk q (.cells x'.cells.toArray 57 (0, 0))) (sep (osl 57 19 a1 n1 c1 vs) (sep (kn I) A))))
        case first =>
         as_aux_lemma =>
          /-DEV2-/
          by_cases e5 : kk % 5 = 4
          · have k5z : (k5 : Int) = 4 := by have := HK.out.2.2.2.2.2.1; omega
            rw [show ((k5 : Int) == 4) = true by rw [k5z]; rfl]
            have HE := Lib.hid e5
            clear e5 t7
            /-DEV6-/
            go_wp2
            go_meet
            case rel =>
              refine ⟨act3 kk nn x, Lib.hid rfl, ?_⟩
              have e : act3 kk nn x = { x with k := 17, u := xd + (n30 : Int) } := by
                unfold act3; rw [if_pos HE.out, HX.out.2, HK.out.2.2.2.2.2.2.2.1]
              rw [e]
              have h9 := (H2.out.setCell 0 (.int .i64 17)).setCell 7 (.int .i64 (xd + (n30 : Int)))
              have e9 : (x.cells.toArray.setIfInBounds 0 (.int .i64 17)).setIfInBounds 7 (.int .i64 (xd + (n30 : Int))) = (Ac.cells { x with k := 17, u := xd + (n30 : Int) }).toArray := by simp [Ac.cells]
              rw [e9] at h9
              exact h9
            /-VED6-/
          · have k5z : ¬ (k5 : Int) = 4 := by have := HK.out.2.2.2.2.2.1; omega
            rw [show ((k5 : Int) == 4) = false by simpa using k5z]
            /-DEV7-/
            have h3 : Sat W (wc.alloc (.cells #[.int .i64 1, .int .i64 1, .int .i64 1, .int .i64 2, .int .i64 1, .int .i64 3, .int .i64 2, .int .i64 3, .int .i64 1, .int .i64 6, .int .i64 1, .int .i64 1048576, .int .i64 1, .int .i64 1048575] 44)) _ := H2.out.alloc0 (.cells #[.int .i64 1, .int .i64 1, .int .i64 1, .int .i64 2, .int .i64 1, .int .i64 3, .int .i64 2, .int .i64 3, .int .i64 1, .int .i64 6, .int .i64 1, .int .i64 1048576, .int .i64 1, .int .i64 1048575] 44)
            have hbs := bs_shares
            obtain ⟨f9a, f9b⟩ := act_fr h3 9 (.int .i64 x.sn) rfl
            obtain ⟨f10a, f10b⟩ := act_fr h3 10 (.int .i64 x.sd) rfl
            have H3 := Lib.hid h3
            have HE := Lib.hid e5
            have e77 : nn % 7 = n7 := HK.out.2.2.2.2.2.2.2.2.symm
            have hn7 := HBD.out.1.2.2.2.1
            clear e5 h3 f0a f0b f1a f1b f7a f7b t30 t5 t23 b5 b23 t4 bxd1 bxd2 bn30
            rcases (show n7 = 0 ∨ n7 = 1 ∨ n7 = 2 ∨ n7 = 3 ∨ n7 = 4 ∨ n7 = 5 ∨ n7 = 6 by omega) with e7 | e7 | e7 | e7 | e7 | e7 | e7
            · rw [e7] at e77 t7
              have t8 : (nn : Int).tmod 7 = 0 := t7
              have HE7 := Lib.hid e77
              clear e77 t7 e7 hn7
              /-DEV70-/
              go_wp2
              go_meet
              case rel =>
                refine ⟨act3 kk nn x, Lib.hid rfl, ?_⟩
                have e : act3 kk nn x = { x with sn := 1, sd := 1 } := by
                  unfold act3; rw [if_neg HE.out, HE7.out]; rfl
                rw [e]
                have h9 := (H3.out.setCell 9 (.int .i64 1)).setCell 10 (.int .i64 1)
                have e9 : (x.cells.toArray.setIfInBounds 9 (.int .i64 1)).setIfInBounds 10 (.int .i64 1) = (Ac.cells { x with sn := 1, sd := 1 }).toArray := by simp [Ac.cells]
                rw [e9] at h9
                exact h9
              /-VED70-/
            · rw [e7] at e77 t7
              have t8 : (nn : Int).tmod 7 = 1 := t7
              have HE7 := Lib.hid e77
              clear e77 t7 e7 hn7
              /-DEV71-/
              go_wp2
              go_meet
              case rel =>
                refine ⟨act3 kk nn x, Lib.hid rfl, ?_⟩
                have e : act3 kk nn x = { x with sn := 1, sd := 2 } := by
                  unfold act3; rw [if_neg HE.out, HE7.out]; rfl
                rw [e]
                have h9 := (H3.out.setCell 9 (.int .i64 1)).setCell 10 (.int .i64 2)
                have e9 : (x.cells.toArray.setIfInBounds 9 (.int .i64 1)).setIfInBounds 10 (.int .i64 2) = (Ac.cells { x with sn := 1, sd := 2 }).toArray := by simp [Ac.cells]
                rw [e9] at h9
                exact h9
              /-VED71-/
            · rw [e7] at e77 t7
              have t8 : (nn : Int).tmod 7 = 2 := t7
              have HE7 := Lib.hid e77
              clear e77 t7 e7 hn7
              /-DEV72-/
              go_wp2
              go_meet
              case rel =>
                refine ⟨act3 kk nn x, Lib.hid rfl, ?_⟩
                have e : act3 kk nn x = { x with sn := 1, sd := 3 } := by
                  unfold act3; rw [if_neg HE.out, HE7.out]; rfl
                rw [e]
                have h9 := (H3.out.setCell 9 (.int .i64 1)).setCell 10 (.int .i64 3)
                have e9 : (x.cells.toArray.setIfInBounds 9 (.int .i64 1)).setIfInBounds 10 (.int .i64 3) = (Ac.cells { x with sn := 1, sd := 3 }).toArray := by simp [Ac.cells]
                rw [e9] at h9
                exact h9
              /-VED72-/
            · rw [e7] at e77 t7
              have t8 : (nn : Int).tmod 7 = 3 := t7
              have HE7 := Lib.hid e77
              clear e77 t7 e7 hn7
              /-DEV73-/
              go_wp2
              go_meet
              case rel =>
                refine ⟨act3 kk nn x, Lib.hid rfl, ?_⟩
                have e : act3 kk nn x = { x with sn := 2, sd := 3 } := by
                  unfold act3; rw [if_neg HE.out, HE7.out]; rfl
                rw [e]
                have h9 := (H3.out.setCell 9 (.int .i64 2)).setCell 10 (.int .i64 3)
                have e9 : (x.cells.toArray.setIfInBounds 9 (.int .i64 2)).setIfInBounds 10 (.int .i64 3) = (Ac.cells { x with sn := 2, sd := 3 }).toArray := by simp [Ac.cells]
                rw [e9] at h9
                exact h9
              /-VED73-/
            · rw [e7] at e77 t7
              have t8 : (nn : Int).tmod 7 = 4 := t7
              have HE7 := Lib.hid e77
              clear e77 t7 e7 hn7
              /-DEV74-/
              go_wp2
              go_meet
              case rel =>
                refine ⟨act3 kk nn x, Lib.hid rfl, ?_⟩
                have e : act3 kk nn x = { x with sn := 1, sd := 6 } := by
                  unfold act3; rw [if_neg HE.out, HE7.out]; rfl
                rw [e]
                have h9 := (H3.out.setCell 9 (.int .i64 1)).setCell 10 (.int .i64 6)
                have e9 : (x.cells.toArray.setIfInBounds 9 (.int .i64 1)).setIfInBounds 10 (.int .i64 6) = (Ac.cells { x with sn := 1, sd := 6 }).toArray := by simp [Ac.cells]
                rw [e9] at h9
                exact h9
              /-VED74-/
            · rw [e7] at e77 t7
              have t8 : (nn : Int).tmod 7 = 5 := t7
              have HE7 := Lib.hid e77
              clear e77 t7 e7 hn7
              /-DEV75-/
              go_wp2
              go_meet
              case rel =>
                refine ⟨act3 kk nn x, Lib.hid rfl, ?_⟩
                have e : act3 kk nn x = { x with sn := 1, sd := 1048576 } := by
                  unfold act3; rw [if_neg HE.out, HE7.out]; rfl
                rw [e]
                have h9 := (H3.out.setCell 9 (.int .i64 1)).setCell 10 (.int .i64 1048576)
                have e9 : (x.cells.toArray.setIfInBounds 9 (.int .i64 1)).setIfInBounds 10 (.int .i64 1048576) = (Ac.cells { x with sn := 1, sd := 1048576 }).toArray := by simp [Ac.cells]
                rw [e9] at h9
                exact h9
              /-VED75-/
            · rw [e7] at e77 t7
              have t8 : (nn : Int).tmod 7 = 6 := t7
              have HE7 := Lib.hid e77
              clear e77 t7 e7 hn7
              /-DEV76-/
              go_wp2
              go_meet
              case rel =>
                refine ⟨act3 kk nn x, Lib.hid rfl, ?_⟩
                have e : act3 kk nn x = { x with sn := 1, sd := 1048575 } := by
                  unfold act3; rw [if_neg HE.out, HE7.out]; rfl
                rw [e]
                have h9 := (H3.out.setCell 9 (.int .i64 1)).setCell 10 (.int .i64 1048575)
                have e9 : (x.cells.toArray.setIfInBounds 9 (.int .i64 1)).setIfInBounds 10 (.int .i64 1048575) = (Ac.cells { x with sn := 1, sd := 1048575 }).toArray := by simp [Ac.cells]
                rw [e9] at h9
                exact h9
              /-VED76-/
            /-VED7-/
          /-VED2-/
        case rest =>
         as_aux_lemma =>
          obtain ⟨y, hy, h3⟩ := hcut
          obtain ⟨f1a, f1b⟩ := act_fr h3 1 (.int .i64 y.d) rfl
          obtain ⟨f2a, f2b⟩ := act_fr h3 2 (.int .i64 y.n) rfl
          have HY := hy
          have H3 := Lib.hid h3
          clear hy h3 t30 t7 t5 b5 bn30 f0a f0b f7a f7b H2 bxd1 bxd2
          go_upto_if 83 with (fail)
          go_cut [] (fun wx => ∃ y' : Ac, Hid (y' = act4 kk y) ∧ Sat W wx (sep (blk q (.cells y'.cells.toArray 57 (0, 0))) (sep (osl 57 19 a1 n1 c1 vs) (sep (kn I) A))))
          case first =>
           as_aux_lemma =>
            /-DEV3-/
            by_cases e23 : kk % 23 = 22
            · have k23z : (k23 : Int) = 22 := by have := HK.out.2.2.2.2.2.2.1; omega
              rw [show ((k23 : Int) == 22) = true by rw [k23z]; rfl]
              have HE := Lib.hid e23
              obtain ⟨w4, hst, h4⟩ := act_wr rfl H3.out 1 y.d y.n 2 0 0 0 0 0 0 0 0 0
              have H4 := Lib.hid h4
              clear e23 h4
              go_wp2
              go_meet
              case rel =>
                refine ⟨act4 kk y, Lib.hid rfl, ?_⟩
                have e : act4 kk y = acNum 1 y.d y.n 2 0 0 ⟨0, 0⟩ := by unfold act4; rw [if_pos HE.out]
                rw [e]
                exact H4.out
            · have k23z : ¬ (k23 : Int) = 22 := by have := HK.out.2.2.2.2.2.2.1; omega
              rw [show ((k23 : Int) == 22) = false by simpa using k23z]
              have HE := Lib.hid e23
              clear e23
              go_wp2
              go_meet
              case rel =>
                refine ⟨act4 kk y, Lib.hid rfl, ?_⟩
                have e : act4 kk y = y := by unfold act4; rw [if_neg HE.out]
                rw [e]
                exact H3.out
            /-VED3-/
          case rest =>
           as_aux_lemma =>
            /-DEV4-/
            obtain ⟨z, hz, h4⟩ := hcut
            have hzA : z = actP l i := by rw [HACT.out, hz.out, HY.out, HX.out.1]; rfl
            have hld := act_ld h4
            have h5 : Sat W (wc.alloc (.cells #[.int .i64 z.k, .int .i64 z.d, .int .i64 z.n, .int .i64 z.f, .int .i64 z.o, .int .i64 z.p, .int .i64 z.q, .int .i64 z.u, .int .i64 z.m, .int .i64 z.sn, .int .i64 z.sd, .slice z.td.a z.td.n z.td.c, .slice z.tc.a z.tc.n z.tc.c, .slice z.cl.a z.cl.n z.cl.c, .slice z.ea.a z.ea.n z.ea.c, .int .i64 z.fo, .int .i64 z.fn, .slice z.fi.a z.fi.n z.fi.c, .slice z.fk.a z.fk.n z.fk.c] 57)) (sep (osl 57 19 a1 n1 c1 vs) (sep (kn I) A)) := h4.forget.alloc0 _
            have hbx := new_src wc [.int .i64 z.k, .int .i64 z.d, .int .i64 z.n, .int .i64 z.f, .int .i64 z.o, .int .i64 z.p, .int .i64 z.q, .int .i64 z.u, .int .i64 z.m, .int .i64 z.sn, .int .i64 z.sd, .slice z.td.a z.td.n z.td.c, .slice z.tc.a z.tc.n z.tc.c, .slice z.cl.a z.cl.n z.cl.c, .slice z.ea.a z.ea.n z.ea.c, .int .i64 z.fo, .int .i64 z.fn, .slice z.fi.a z.fi.n z.fi.c, .slice z.fk.a z.fk.n z.fk.c] 57
            have hbs := bs_act z
            have HZ := Lib.hid hzA
            have H5 := Lib.hid h5
            have HBX := Lib.hid hbx
            have n1b : n1 ≤ 14 := hn114
            have hi12 : (i : Int) < 12 := hg2
            clear hz h4 h5 hbx hzA f1a f1b f2a f2b H3 b23 t23
            go_upto_region 17 with (fail)
            clear f1a f1b
            go_wp2_with (at_builtin; go_loud (refine wpl_append_osl rfl _ _ 29 rfl 57 19 248 _ Tryz.underlying29 infoAct rfl rfl H5.out rfl [.int .i64 z.k, .int .i64 z.d, .int .i64 z.n, .int .i64 z.f, .int .i64 z.o, .int .i64 z.p, .int .i64 z.q, .int .i64 z.u, .int .i64 z.m, .int .i64 z.sn, .int .i64 z.sd, .slice z.td.a z.td.n z.td.c, .slice z.tc.a z.tc.n z.tc.c, .slice z.cl.a z.cl.n z.cl.c, .slice z.ea.a z.ea.n z.ea.c, .int .i64 z.fo, .int .i64 z.fn, .slice z.fi.a z.fi.n z.fi.c, .slice z.fk.a z.fk.n z.fk.c] rfl (by simp) (by intro b' hb; cases hb; exact HBX.out) z.one (by omega) (by unfold maxLen; omega) ?_))
            intro a' c' w' h6
            have H6 := Lib.hid h6
            clear h6 hld H5 HBX hbs
            go_wp2
            go_roundw
            case rel =>
              refine ⟨i + 1, n1 + 1, a', c', vs ++ z.cells, by go_num, by omega, rfl, Lib.hid ⟨HG.out.2, ?_⟩, by have := HN1.out; omega, H6.out⟩
              rw [HV.out.2, HZ.out, List.range_succ, List.map_append, ← List.append_assoc, acs_append]
              simp [acs]
            case measure => simp [intOf]; omega
            /-VED4-/
    · as_aux_lemma =>
      /-DEV5-/
      have hie : i = scrN l := by have := HV.out.1; omega
      have hsc : ¬ (3 * i < ll ∧ i < 12) := by
        rw [HLL.out, hie]
        unfold scrN
        omega
      have HF : Hid (n1 = (scrP l).length ∧ Sat W wr (sep (osl 57 19 a1 n1 c1 (acs (scrP l))) (sep (kn I) A))) := Lib.hid (by
        refine ⟨?_, ?_⟩
        · rw [HN1.out, hie]; simp [scrP]
        · have h9 := hS
          rw [HV.out.2, hie] at h9
          exact h9)
      clear hie hS hlt HV HN1 hn114 HPK
      by_cases hge : ll ≤ 3 * i
      · have hg1 : ¬ 3 * (i : Int) < (ll : Int) := by omega
        clear hge hsc
        go_wp2
        go_ret
        exact ⟨a1, n1, c1, rfl, HF.out⟩
      · have hg1 : 3 * (i : Int) < (ll : Int) := by omega
        have hg2 : ¬ (i : Int) < 12 := by omega
        clear hge hsc
        go_wp2
        go_ret
        exact ⟨a1, n1, c1, rfl, HF.out⟩
      /-VED5-/
theorem script25_spec {W w : World} {A : Assn} {I : Mem} (a : Option Addr) (c : Nat) (l : List Int) (hv : (rInt.slice 1).rel I [.slice a l.length c] l) (hl : ∀ z ∈ l, I64' z) (h : Sat W w (sep (kn I) A)) :
    Calls Tryz.prog 21 #[.slice a l.length c] w fun e w' => ∃ g n c' J, e = .returned (.slice (some ⟨g, 0, none⟩) n c') ∧ n = (scrP l).length ∧ Mem.le I J ∧ Swf (some ⟨g, 0, none⟩) n c' ∧ cellsAt (some ⟨g, 0, none⟩) (acs (scrP l)) J ∧ Sat W w' (sep (kn J) A) := by
  refine (script25_own a c l hv hl h).mono ?_
  rintro e w' ⟨a', n, c', rfl, hn, h2⟩
  have hsw := h2.swf_of_osl
  obtain ⟨g, rfl⟩ : ∃ g, a' = some ⟨g, 0, none⟩ := by
    rcases h2.osl_cases with ⟨-, h0, -⟩ | ⟨g, cur, rfl, -⟩
    · rw [h0] at hn; simp [scrP] at hn
    · exact ⟨g, rfl⟩
  obtain ⟨J, hle, hJ, h9⟩ := h2.osl_settle.learn
  exact ⟨g, n, c', J, rfl, hn, hle, hsw, hJ, h9⟩
end Go.Proofs.YtfapiopnjllnnaaGreatDoor
