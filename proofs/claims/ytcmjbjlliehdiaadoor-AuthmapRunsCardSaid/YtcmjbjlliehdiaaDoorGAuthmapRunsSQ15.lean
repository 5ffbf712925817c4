/- AuthmapRuns, the walk. -/
import Derived.Test.YtcmjbjlliehdiaaDoorGAuthmapRunsSQh
import Derived.Test.YtcmjbjlliehdiaaDoorGAuthmapRunsSQc
import Derived.Test.YtcmjbjlliehdiaaDoorGAuthmapRunsSQd
import Derived.Test.YtcmjbjlliehdiaaDoorArb
import Derived.Test.YtcmjbjlliehdiaaDoorGAuthmapRunsSFe
import Derived.Deep.DeepCutAuto
namespace PA
open Go
theorem lkP_cons_fset {x : Int × List UInt8} {l : PrL} (_h : AscP (x :: l)) : lkP (x :: l) = fset (lkP l) x.1 (some x.2) := by
  funext k
  simp only [lkP, fset]
theorem nkeys_lk : ∀ {L : PrL}, AscP L → (∀ x ∈ L, 0 ≤ x.1 ∧ x.1 ≤ 4095) → nkeys (lkP L) = L.length
  | [], _, _ => nkeys_none
  | x :: l, h, hr => by
    have ih := nkeys_lk h.cons.2 fun y hy => hr y (by simp [hy])
    have hn : lkP l x.1 = none := lkP_none fun y hy => by have := h.cons.1 y hy; omega
    rw [lkP_cons_fset h, nkeys_new x.2 (hr x (by simp)).1 (hr x (by simp)).2 hn, ih]
    rfl
theorem fnd_at {L : PrL} (h : AscP L) {k : Int} (hk : hasP L k = true) : ∃ hi : fndP L k < L.length, L[fndP L k].1 = k ∧ lkP L k = some L[fndP L k].2 := by
  have hi := fnd_lt hk
  have he : L[fndP L k].1 = k := by
    unfold hasP at hk
    rw [dif_pos hi] at hk
    exact of_decide_eq_true hk
  refine ⟨hi, he, ?_⟩
  have := lkP_get h _ hi
  rw [he] at this
  exact this
theorem findP_cases {L : PrL} (h : AscP L) (k : Int) : (lkP L k = none ∧ findP L k = -1) ∨ ∃ (i : Nat) (hi : i < L.length), findP L k = (i : Nat) ∧ lkP L k = some L[i].2 := by
  unfold findP
  cases hh : hasP L k with
  | false =>
    have := hasP_lk h k
    rw [hh] at this
    refine .inl ⟨?_, by simp⟩
    cases hl : lkP L k with
    | none => rfl
    | some v => rw [hl] at this; cases this
  | true =>
    obtain ⟨hi, -, h2⟩ := fnd_at h hh
    exact .inr ⟨_, hi, by simp, h2⟩
/-- What is kept of the reference's map. -/
structure LOK (L : PrL) (m : Nat) : Prop where
  asc : AscP L
  len : L.length ≤ m
  each : ∀ x ∈ L, (0 ≤ x.1 ∧ x.1 ≤ 4095) ∧ x.2.length ≤ 30
theorem LOK.nil : LOK [] 0 := ⟨by simp [AscP], Nat.le_refl _, fun x hx => by cases hx⟩
theorem LOK.mono {L : PrL} {m n : Nat} (h : LOK L m) (hn : m ≤ n) : LOK L n := ⟨h.asc, Nat.le_trans h.len hn, h.each⟩
theorem LOK.set {L : PrL} {m : Nat} (h : LOK L m) {k : Int} {v : List UInt8} (hk : 0 ≤ k ∧ k ≤ 4095) (hv : v.length ≤ 30) : LOK (setP L k v) (m + 1) :=
  ⟨setP_asc v k h.asc, by have := setP_len v k L; have := h.len; omega, fun x hx => by
    rcases setP_mem v k hx with rfl | hx
    · exact ⟨hk, hv⟩
    · exact h.each x hx⟩
theorem LOK.del {L : PrL} {m : Nat} (h : LOK L m) (k : Int) : LOK (delP L k) m :=
  ⟨delP_asc h.asc k, Nat.le_trans (delP_len L k) h.len, fun x hx => h.each x (delP_sub L k x hx)⟩
theorem LOK.out {L : PrL} {m : Nat} (h : LOK L m) {k : Int} (hk : k < 0 ∨ 4095 < k) : lkP L k = none := lkP_none fun x hx e => by
  have := (h.each x hx).1
  omega
end PA
namespace Go.Proofs.YtcmjbjlliehdiaaDoor
open Go.RowKit PA
attribute [local go_sem] Oper.semAt_some
theorem ints_cellQ {I : Mem} {w : World} {a : Option Addr} {n c : Nat} {ns : List Int} (hn : n = ns.length) (hv : (rInt.slice 1).rel I [.slice a n c] ns) (he : Ext I w) (k : Nat) (hk : k < n) :
    ∃ b o, a = some ⟨b, o, none⟩ ∧ w.cell? ⟨b, o + k, none⟩ = some (.int .i64 (ns[k]'(hn ▸ hk))) := by
  subst hn
  obtain ⟨a', c', e, hw, hc⟩ := ints_rel.1 hv
  cases e
  obtain ⟨b, o, e, h⟩ := cells_ext hc (fun e => by have := congrArg List.length e; rw [List.length_map, List.length_nil] at this; omega)
  exact ⟨b, o, e, h w he k _ (by rw [List.getElem?_map, List.getElem?_eq_getElem hk]; rfl)⟩
set_option maxRecDepth 100000 in
set_option maxHeartbeats 16000000 in
theorem authmapRuns_walk (a0 : Option Addr) (len0 cap0 : Nat) (z0 : List Int) (a1 : Option Addr) (len1 cap1 : Nat) (l1 : List (List UInt8)) (a2 : Int) (w : World) (hW : WholeOK w)
    (w0 : IsArg w a0 len0 cap0 z0) (v1 : len1 = l1.length) (w1 : (rBytes.slice 1).rel (wm w) [.slice a1 len1 cap1] l1) (w2 : (Lit.int .i64 a2).wf = true) :
    Calls Tryd.prog 7 #[.slice a0 len0 cap0, .slice a1 len1 cap1, .int .i64 a2] w fun e w' => e = .returned (.bool true) ∧ Below w.heap.size w w' := by
  obtain ⟨ns, hns, hr0, h64⟩ := argI w0
  have HN0 := Lib.hid (anew_spec (Sat.startKn w))
  have HR := Lib.hid (And.intro hns (And.intro hr0 h64))
  have HV := Lib.hid (And.intro v1 w1)
  have HK2 := Lib.hid (i64_of_wf w2)
  have HW := Lib.hid hW
  clear hW w0 w1 v1 w2 hns hr0 h64
  go_enter Tryd.func7, Tryd.ntmps7
  go_wp2_with fail
  refine HN0.out.mono ?_
  rintro e w2 ⟨p, rfl, h2⟩
  have h3 := h2.alloc (.cells #[.slice none 0 0] 29)
  obtain ⟨q, hq⟩ : ∃ q, q = w2.heap.size := ⟨_, rfl⟩
  obtain ⟨w3, hw3⟩ : ∃ w3, w3 = w2.alloc (.cells #[.slice none 0 0] 29) := ⟨_, rfl⟩
  rw [← hq, ← hw3] at h3
  have h4 : Sat w w3 (sep (isQM q []) (sep (isAM p (lkP [])) (sep (kn (wm w)) emp))) := by
    refine isQM_mk (a := none) (c := 0) (cells := []) (n := 0) rfl ?_
    have h5 := (rows_nil rPairQ 2 (show Sat w w3 (sep (isAM p fun _ => none) (sep (kn (wm w)) (sep (blk q (.cells #[.slice none 0 0] 29 (0, 0))) emp))) by simpa only [sep_comm, sep_lcomm, sep_assoc] using h3)).osl_nil 34 2
    have h6 : Sat w w3 (sep (osl 34 2 none 0 0 []) (sep ((rPairQ.rows 2).is [] []) (sep (isAM p (lkP [])) (sep (kn (wm w)) (sep (blk q (.cells #[.slice none 0 0] 29 (0, 0))) emp))))) := h5
    simpa only [sep_comm, sep_lcomm, sep_assoc] using h6
  have HQ := Lib.hid (And.intro hq hw3)
  have H4 := Lib.hid h4
  clear HN0 h2 h3 h4 hq hw3
  go_upto_region 3 with (fail)
  rw [← HQ.out.1, ← HQ.out.2]
  go_wp2_with fail
  go_loopw [9] (fun iv wr => ∃ (i : Nat) (L : PrL) (J : Mem), i ≤ 16 ∧ iv = .int .i64 (i : Nat) ∧ Hid (LOK L i) ∧ Hid (Mem.le (wm w) J) ∧ Hid (Sat w wr (sep (isQM q L) (sep (isAM p (lkP L)) (sep (kn J) emp))))) (fun iv _ => 16 - (intOf iv).toNat)
  case atStart => exact ⟨0, [], wm w, Nat.zero_le _, rfl, Lib.hid LOK.nil, Lib.hid (Mem.le_refl _), H4⟩
  case round =>
    clear H4
    obtain ⟨i, L, J, hi, rfl, HL, HJ, HS⟩ := hrel
    by_cases hlt : i < len0 ∧ i < 16
    · obtain ⟨hi1, hi2⟩ := hlt
      have g1 : (i : Int) < (len0 : Int) := by omega
      have g2 : (i : Int) < 16 := by omega
      have hext : Ext J wr := (show Sat w wr (sep (kn J) (sep (isQM q L) (sep (isAM p (lkP L)) emp))) by have := HS.out; simpa only [sep_comm, sep_lcomm, sep_assoc] using this).ext
      obtain ⟨bb, oo, rfl, hcell⟩ := ints_cellQ HR.out.1 ((rInt.slice 1).mono HJ.out HR.out.2.1) hext i hi1
      obtain ⟨z, hz⟩ : ∃ z, z = ns[i]'(by have := HR.out.1; omega) := ⟨_, rfl⟩
      have hz64 : I64' z := by rw [hz]; exact HR.out.2.2 _ (List.getElem_mem _)
      rw [← hz] at hcell
      have HA1 := Lib.hid (fun w' => around_spec z 1048576 w' hz64.1 hz64.2 (by omega) (by omega))
      have hx := aroundI_lt z 1048576 (by omega)
      obtain ⟨x, hx0⟩ : ∃ x : Nat, aroundI z 1048576 = (x : Int) := ⟨(aroundI z 1048576).toNat, by omega⟩
      rw [hx0] at HA1 hx
      have hx1 : x < 1048576 := by omega
      obtain ⟨x5, hx5⟩ : ∃ x5, x5 = x / 5 := ⟨_, rfl⟩
      have hq5 : (x : Int).tdiv 5 = (x5 : Int) := by rw [Int.tdiv_eq_ediv_of_nonneg (by omega)]; omega
      have hx5b : x5 ≤ 1048576 := by omega
      have HKY := Lib.hid (fun (w' : World) (A : Assn) (h : Sat w w' A) => qkey_spec (x5 : Int) ⟨by omega, by omega⟩ h)
      have hkr := keyQ_range (x5 : Int)
      obtain ⟨k0, hk0⟩ : ∃ k0, k0 = keyQ (x5 : Int) := ⟨_, rfl⟩
      rw [← hk0] at HKY hkr
      have HZ := Lib.hid (And.intro hz64 hkr)
      clear hz hz64 hx hx0 hx5 hk0 hkr hext hi1 hi2
      go_wp2_with fail
      refine (HA1.out wr).mono ?_
      rintro e w' ⟨rfl, rfl⟩
      clear HA1 hcell
      go_wp2_with fail
      refine (HKY.out wr _ HS.out).mono ?_
      rintro e w4 ⟨rfl, h4⟩
      have H4 := Lib.hid h4
      clear HKY HS h4 hq5
      obtain ⟨x11, hx11⟩ : ∃ x11, x11 = x % 11 := ⟨_, rfl⟩
      have hr11 : (x : Int).tmod 11 = (x11 : Int) := by rw [Int.tmod_eq_emod_of_nonneg (by omega)]; omega
      clear hx11
      go_upto_if 43 with (fail)
      go_cut [11] (fun kv wx => ∃ kk : Int, kv = .int .i64 kk ∧ Hid (I64' kk) ∧ Hid (Sat w wx (sep (isQM q L) (sep (isAM p (lkP L)) (sep (kn J) emp)))))
      case first =>
        by_cases h11 : (x11 : Int) = 0
        · have gb : ((x11 : Int) == 0) = true := by simp; omega
          obtain ⟨d11, hd11⟩ : ∃ d11, d11 = x / 11 := ⟨_, rfl⟩
          have hq11 : (x : Int).tdiv 11 = (d11 : Int) := by rw [Int.tdiv_eq_ediv_of_nonneg (by omega)]; omega
          obtain ⟨m3, hm3⟩ : ∃ m3, m3 = d11 % 3 := ⟨_, rfl⟩
          have hr3 : (d11 : Int).tmod 3 = (m3 : Int) := by rw [Int.tmod_eq_emod_of_nonneg (by omega)]; omega
          have hm3b : m3 < 3 := by omega
          have hd11b : d11 ≤ 1048576 := by omega
          have h5 := H4.out.alloc (.cells #[.int .i64 a2, .int .i64 (-1), .int .i64 4096] 3)
          have f0 : (w4.alloc (.cells #[.int .i64 a2, .int .i64 (-1), .int .i64 4096] 3)).cell? ⟨w4.heap.size, 0, none⟩ = some (.int .i64 a2) := h5.cell 0
          have f1 : (w4.alloc (.cells #[.int .i64 a2, .int .i64 (-1), .int .i64 4096] 3)).cell? ⟨w4.heap.size, 1, none⟩ = some (.int .i64 (-1)) := h5.cell 1
          have f2 : (w4.alloc (.cells #[.int .i64 a2, .int .i64 (-1), .int .i64 4096] 3)).cell? ⟨w4.heap.size, 2, none⟩ = some (.int .i64 4096) := h5.cell 2
          have H5 := Lib.hid h5.forget
          clear h5 hd11 hm3
          obtain rfl | rfl | rfl : m3 = 0 ∨ m3 = 1 ∨ m3 = 2 := by omega
          · go_wp2_with fail
            go_meet
            exact ⟨a2, rfl, HK2, H5⟩
          · go_wp2_with fail
            go_meet
            exact ⟨-1, rfl, Lib.hid ⟨by omega, by omega⟩, H5⟩
          · go_wp2_with fail
            go_meet
            exact ⟨4096, rfl, Lib.hid ⟨by omega, by omega⟩, H5⟩
        · have gb : ((x11 : Int) == 0) = false := by simp; omega
          have hk64 : Hid (I64' k0) := Lib.hid ⟨by have := HZ.out.2; omega, by have := HZ.out.2; omega⟩
          go_wp2_with fail
          go_meet
          exact ⟨k0, rfl, hk64, H4⟩
      case rest =>
        clear H4 hr11
        obtain ⟨kk, rfl, HKK, HS⟩ := hcut
        have HCP := Lib.hid (acopy_spec p (lkP L) (show Sat w wc (sep (isAM p (lkP L)) (sep (kn J) (sep (isQM q L) emp))) by have := HS.out; simpa only [sep_comm, sep_lcomm, sep_assoc] using this))
        clear HS
        go_wp2_with fail
        refine HCP.out.mono ?_
        rintro e w5 ⟨cp, rfl, h5⟩
        have HRT := Lib.hid (aroot_spec HW.out cp (lkP L) h5)
        clear HCP h5
        go_wp2_with fail
        refine HRT.out.mono ?_
        rintro e w6 ⟨rfl, h6⟩
        obtain ⟨rt0, hrt0⟩ : ∃ z, z = rootN (lkP L) := ⟨_, rfl⟩
        rw [← hrt0]
        have HRT0 := Lib.hid hrt0
        have H6 : Hid (Sat w w6 (sep (isQM q L) (sep (isAM p (lkP L)) (sep (kn J) (sep (isAM cp (lkP L)) emp))))) := Lib.hid (by simpa only [sep_comm, sep_lcomm, sep_assoc] using h6)
        clear HRT h6 hrt0
        obtain ⟨x5m, hx5m⟩ : ∃ x5m, x5m = x % 5 := ⟨_, rfl⟩
        have hr5 : (x : Int).tmod 5 = (x5m : Int) := by rw [Int.tmod_eq_emod_of_nonneg (by omega)]; omega
        clear hx5m
        go_upto_if 59 with (fail)
        go_cut [] (fun wx => ∃ (L' : PrL) (J' : Mem), Hid (LOK L' (i + 1)) ∧ Hid (Mem.le J J') ∧ Hid (Sat w wx (sep (isQM q L') (sep (isAM p (lkP L')) (sep (kn J') (sep (isAM cp (lkP L)) emp))))))
        case first =>
          by_cases h3 : (x5m : Int) < 3
          · go_upto_if 63 with (fail)
            go_cut [14] (fun vv wx => ∃ (va : Option Addr) (vc : Nat) (v : List UInt8) (J' : Mem), vv = .slice va v.length vc ∧ Hid (v.length ≤ 30) ∧ Hid (Mem.le J J') ∧ Hid (rBytes.rel J' [.slice va v.length vc] v) ∧ Hid (Sat w wx (sep (isQM q L) (sep (isAM p (lkP L)) (sep (kn J') (sep (isAM cp (lkP L)) emp))))))
            case first =>
              by_cases hv : i < len1
              · have g5 : (i : Int) < (len1 : Int) := by omega
                have hkn : Sat w w6 (sep (kn J) (sep (isQM q L) (sep (isAM p (lkP L)) (sep (isAM cp (lkP L)) emp)))) := by have := H6.out; simpa only [sep_comm, sep_lcomm, sep_assoc] using this
                obtain ⟨gb, go, gv, rfl, hcl, hrv⟩ := slice_el ((rBytes.slice 1).mono HJ.out HV.out.2) i (by rw [← HV.out.1]; exact hv)
                have hc5 := hcl w6 hkn.ext
                obtain ⟨vi, hvi⟩ : ∃ y, y = l1[i]'(by rw [← HV.out.1]; exact hv) := ⟨_, rfl⟩
                rw [← hvi] at hrv
                have hfw := few_spec gv _ 30 hkn hrv (by omega)
                obtain ⟨tv, htv⟩ : ∃ tv, tv = vi.take 30 := ⟨_, rfl⟩
                rw [← htv] at hfw
                have HTV : Hid (tv.length ≤ 30) := Lib.hid (by rw [htv, List.length_take]; omega)
                have HFW := Lib.hid hfw
                clear hkn hcl hrv hvi hv htv hfw
                go_wp2_with fail
                refine HFW.out.mono ?_
                rintro e w7 ⟨va, vc, rfl, h7⟩
                obtain ⟨J2, hJ2, hr2, h8⟩ := osl_learnQ h7 rfl
                have H8 := Lib.hid h8
                have HX := Lib.hid (And.intro hJ2 hr2)
                clear HFW h7 h8 hJ2 hr2 hc5
                go_wp2_with fail
                go_meet
                exact ⟨va, vc, tv, J2, rfl, HTV, Lib.hid HX.out.1, Lib.hid HX.out.2, Lib.hid (by have := H8.out; simpa only [sep_comm, sep_lcomm, sep_assoc] using this)⟩
              · have g5 : ¬ (i : Int) < (len1 : Int) := by omega
                clear hv
                go_wp2_with fail
                go_meet
                exact ⟨none, 0, [], J, rfl, Lib.hid (by simp), Lib.hid (Mem.le_refl _), Lib.hid (nilB J), H6⟩
            case rest =>
              clear H6
              obtain ⟨va, vc, v, J1, rfl, HVL, HJ1, HRV, HS⟩ := hcut
              have hS1 : Sat w wc (sep (isAM p (lkP L)) (sep (kn J1) (sep (isQM q L) (sep (isAM cp (lkP L)) emp)))) := by have := HS.out; simpa only [sep_comm, sep_lcomm, sep_assoc] using this
              by_cases hk : 0 ≤ kk ∧ kk ≤ 4095
              · have HA := Lib.hid (aset_ok HW.out p (lkP L) kk _ v hS1 HRV.out hk (by have := HVL.out; omega))
                rw [← setP_lk v kk HL.out.asc] at HA
                have HB := Lib.hid (fun w' (h : Sat w w' (sep (isQM q L) (sep (kn J1) (sep (isAM p (lkP (setP L kk v))) (sep (isAM cp (lkP L)) emp))))) => qset_ok q L kk _ v h HRV.out (by have := HVL.out; omega) (by have := HL.out.len; omega) hk)
                have HL2 : Hid (LOK (setP L kk v) (i + 1)) := Lib.hid (HL.out.set hk HVL.out)
                clear hS1 HS hk
                obtain ⟨vl, hvl⟩ : ∃ vl, vl = v.length := ⟨_, rfl⟩
                rw [← hvl] at HA HB ⊢
                clear hvl
                go_wp2_with fail
                refine HA.out.mono ?_
                rintro e w7 ⟨rfl, h7⟩
                have HB2 := Lib.hid (HB.out w7 (by simpa only [sep_comm, sep_lcomm, sep_assoc] using h7))
                clear HA HB h7
                go_wp2_with fail
                refine HB2.out.mono ?_
                rintro e w8 ⟨rfl, h8⟩
                have H8 := Lib.hid h8
                clear HB2 h8
                go_wp2_with fail
                go_meet
                exact ⟨_, J1, HL2, HJ1, Lib.hid (by have := H8.out; simpa only [sep_comm, sep_lcomm, sep_assoc] using this)⟩
              · have hk' : kk < 0 ∨ 4095 < kk := by omega
                have HA := Lib.hid (aset_range p kk (.slice va v.length vc) HS.out hk')
                have HB := Lib.hid (fun w' (h : Sat w w' (sep (isQM q L) (sep (isAM p (lkP L)) (sep (kn J1) (sep (isAM cp (lkP L)) emp))))) => qset_range q kk (.slice va v.length vc) h hk')
                have HL2 : Hid (LOK L (i + 1)) := Lib.hid (HL.out.mono (by omega))
                clear hS1 HS hk hk'
                obtain ⟨vl, hvl⟩ : ∃ vl, vl = v.length := ⟨_, rfl⟩
                rw [← hvl] at HA HB ⊢
                clear hvl
                go_wp2_with fail
                refine HA.out.mono ?_
                rintro e w7 ⟨rfl, h7⟩
                have HB2 := Lib.hid (HB.out w7 h7)
                clear HA HB h7
                go_wp2_with fail
                refine HB2.out.mono ?_
                rintro e w8 ⟨rfl, h8⟩
                have H8 := Lib.hid h8
                clear HB2 h8
                go_wp2_with fail
                go_meet
                exact ⟨L, J1, HL2, HJ1, H8⟩
          · have hS1 : Sat w w6 (sep (isAM p (lkP L)) (sep (kn J) (sep (isQM q L) (sep (isAM cp (lkP L)) emp)))) := by have := H6.out; simpa only [sep_comm, sep_lcomm, sep_assoc] using this
            by_cases hk : 0 ≤ kk ∧ kk ≤ 4095
            · cases hh : hasP L kk with
              | true =>
                have hms : (lkP L kk).isSome = true := by rw [← hasP_lk HL.out.asc kk]; exact hh
                have HA := Lib.hid (adel_ok HW.out p (lkP L) kk hS1 hk hms)
                rw [← delP_lk kk HL.out.asc hh] at HA
                have HB := Lib.hid (fun w' (h : Sat w w' (sep (isQM q L) (sep (kn J) (sep (isAM p (lkP (delP L kk))) (sep (isAM cp (lkP L)) emp))))) => qdel_ok q L kk HL.out.asc h (by have := HL.out.len; omega) hk hh)
                have HL2 : Hid (LOK (delP L kk) (i + 1)) := Lib.hid ((HL.out.del kk).mono (by omega))
                clear hS1 H6 hk hh hms
                go_wp2_with fail
                refine HA.out.mono ?_
                rintro e w7 ⟨rfl, h7⟩
                have HB2 := Lib.hid (HB.out w7 (by simpa only [sep_comm, sep_lcomm, sep_assoc] using h7))
                clear HA HB h7
                go_wp2_with fail
                refine HB2.out.mono ?_
                rintro e w8 ⟨rfl, h8⟩
                have H8 := Lib.hid h8
                clear HB2 h8
                go_wp2_with fail
                go_meet
                exact ⟨_, J, HL2, Lib.hid (Mem.le_refl _), Lib.hid (by have := H8.out; simpa only [sep_comm, sep_lcomm, sep_assoc] using this)⟩
              | false =>
                have hms : lkP L kk = none := by
                  have := hasP_lk HL.out.asc kk
                  rw [hh] at this
                  cases h : lkP L kk with
                  | none => rfl
                  | some v => rw [h] at this; cases this
                have HA := Lib.hid (adel_none p (lkP L) kk hS1 hk hms)
                have HB := Lib.hid (fun w' (h : Sat w w' (sep (isQM q L) (sep (isAM p (lkP L)) (sep (kn J) (sep (isAM cp (lkP L)) emp))))) => qdel_none q L kk HL.out.asc h (by have := HL.out.len; omega) hk hh)
                have HL2 : Hid (LOK L (i + 1)) := Lib.hid (HL.out.mono (by omega))
                clear hS1 H6 hk hh hms
                go_wp2_with fail
                refine HA.out.mono ?_
                rintro e w7 ⟨rfl, h7⟩
                have HB2 := Lib.hid (HB.out w7 (by simpa only [sep_comm, sep_lcomm, sep_assoc] using h7))
                clear HA HB h7
                go_wp2_with fail
                refine HB2.out.mono ?_
                rintro e w8 ⟨rfl, h8⟩
                have H8 := Lib.hid h8
                clear HB2 h8
                go_wp2_with fail
                go_meet
                exact ⟨L, J, HL2, Lib.hid (Mem.le_refl _), H8⟩
            · have hk' : kk < 0 ∨ 4095 < kk := by omega
              have HA := Lib.hid (adel_range p kk H6.out hk')
              have HB := Lib.hid (fun w' (h : Sat w w' (sep (isQM q L) (sep (isAM p (lkP L)) (sep (kn J) (sep (isAM cp (lkP L)) emp))))) => qdel_range q kk h hk')
              have HL2 : Hid (LOK L (i + 1)) := Lib.hid (HL.out.mono (by omega))
              clear hS1 H6 hk hk'
              go_wp2_with fail
              refine HA.out.mono ?_
              rintro e w7 ⟨rfl, h7⟩
              have HB2 := Lib.hid (HB.out w7 h7)
              clear HA HB h7
              go_wp2_with fail
              refine HB2.out.mono ?_
              rintro e w8 ⟨rfl, h8⟩
              have H8 := Lib.hid h8
              clear HB2 h8
              go_wp2_with fail
              go_meet
              exact ⟨L, J, HL2, Lib.hid (Mem.le_refl _), H8⟩
        case rest =>
          clear H6 hr5
          obtain ⟨L', J', HL', HJ', HS⟩ := hcut
          have hfnd := findP_cases HL'.out.asc kk
          have hS1 : Sat w wc (sep (isAM p (lkP L')) (sep (isQM q L') (sep (kn J') (sep (isAM cp (lkP L)) emp)))) := by have := HS.out; simpa only [sep_comm, sep_lcomm, sep_assoc] using this
          have HG := Lib.hid (aget_spec p (lkP L') kk hS1)
          obtain ⟨gt, hgt⟩ : ∃ z, z = ((lkP L' kk).getD []) := ⟨_, rfl⟩
          obtain ⟨gs, hgs⟩ : ∃ z, z = (lkP L' kk).isSome := ⟨_, rfl⟩
          rw [← hgt, ← hgs] at HG
          obtain ⟨gl, hgl⟩ : ∃ z, z = gt.length := ⟨_, rfl⟩
          rw [← hgl] at HG
          obtain ⟨fk, hfk⟩ : ∃ z, z = findP L' kk := ⟨_, rfl⟩
          have HFD := Lib.hid (fun w' (A : Assn) (h : Sat w w' (sep (isQM q L') A)) => qfind_spec q L' kk HL'.out.asc h (by have := HL'.out.len; omega))
          rw [← hfk] at HFD hfnd
          have HGT := Lib.hid (And.intro hgt (And.intro hgs hgl))
          clear hS1 HS hgt hgs hgl hfk
          go_wp2_with fail
          refine HG.out.mono ?_
          rintro e w8 ⟨ga, gc, rfl, h8⟩
          obtain ⟨J2, hJ2, hrg, h9⟩ := osl_learnQ (show Sat w w8 (sep (osl 5 1 ga gl gc (gt.map bv)) (sep (kn J') (sep (isQM q L') (sep (isAM p (lkP L')) (sep (isAM cp (lkP L)) emp))))) by simpa only [sep_comm, sep_lcomm, sep_assoc] using h8) HGT.out.2.2
          have HFD2 := Lib.hid (HFD.out w8 _ (show Sat w w8 (sep (isQM q L') (sep (kn J2) (sep (isAM p (lkP L')) (sep (isAM cp (lkP L)) emp)))) by simpa only [sep_comm, sep_lcomm, sep_assoc] using h9))
          have H9 : Hid (Sat w w8 (sep (isQM q L') (sep (kn J2) (sep (isAM p (lkP L')) (sep (isAM cp (lkP L)) emp))))) := Lib.hid (by simpa only [sep_comm, sep_lcomm, sep_assoc] using h9)
          have HX := Lib.hid (And.intro hJ2 hrg)
          clear HG HFD h8 h9 hJ2 hrg
          go_wp2_with fail
          refine HFD2.out.mono ?_
          rintro e w' ⟨rfl, rfl⟩
          clear HFD2
          go_upto_region 26 with (fail)
          go_cut [122] (fun tv wx => tv = .bool false ∧ ∃ J3, Hid (Mem.le J' J3) ∧ Hid (Sat w wx (sep (isQM q L') (sep (isAM p (lkP L')) (sep (kn J3) (sep (isAM cp (lkP L)) emp))))))
          case first =>
            rcases hfnd with ⟨hn, hf⟩ | ⟨j, hjL, hf, hs⟩
            · have hgs : gs = false := by rw [HGT.out.2.1, hn]; rfl
              have hgl : gl = 0 := by rw [HGT.out.2.2, HGT.out.1, hn]; rfl
              subst hgs hgl hf
              clear hn
              go_wp2_with fail
              go_meet
              exact ⟨rfl, J2, Lib.hid HX.out.1, Lib.hid (by have := H9.out; simpa only [sep_comm, sep_lcomm, sep_assoc] using this)⟩
            · have hgs : gs = true := by rw [HGT.out.2.1, hs]; rfl
              have hgt : gt = L'[j].2 := by rw [HGT.out.1, hs]; rfl
              obtain ⟨pa, pc, c0, hac, hcm, hpr⟩ := qv_own w q L' _ J2 _ H9.out
              obtain ⟨gb, go, va, vc, J3, rfl, -, f1, hJ3, hr3, h10⟩ := hpr j hjL
              rw [← hgt] at f1 hr3
              rw [← HGT.out.2.2] at f1 hr3
              have HSB := Lib.hid (same_knQ (.slice ga gl gc) (.slice va gl vc) gt (show Sat w w' (sep (kn J3) (sep (isQM q L') (sep (isAM p (lkP L')) (sep (isAM cp (lkP L)) emp)))) by simpa only [sep_comm, sep_lcomm, sep_assoc] using h10) (rBytes.mono hJ3 HX.out.2) hr3)
              have HJ3 := Lib.hid (Mem.le_trans HX.out.1 hJ3)
              obtain ⟨nl, hnl⟩ : ∃ nl, nl = L'.length := ⟨_, rfl⟩
              rw [← hnl] at c0 hac
              have hjn : j < nl := by omega
              have hcI : (pc : Int) ≤ 9223372036854775807 := by unfold maxLen at hcm; omega
              subst hgs hf
              clear hs hgt hpr hJ3 hr3 h10 hcm hjL hnl
              go_wp2_with fail
              refine HSB.out.mono ?_
              rintro e w9 ⟨rfl, h11⟩
              have H11 : Hid (Sat w w9 (sep (isQM q L') (sep (isAM p (lkP L')) (sep (kn J3) (sep (isAM cp (lkP L)) emp))))) := Lib.hid (by simpa only [sep_comm, sep_lcomm, sep_assoc] using h11)
              clear HSB h11 c0 f1
              go_wp2_with fail
              go_meet
              exact ⟨rfl, J3, HJ3, H11⟩
          case rest =>
            clear H9 HX hfnd HGT
            obtain ⟨rfl, J3, HJ3, HS⟩ := hcut
            obtain ⟨wd, hwd⟩ : ∃ wd, wd = wc.drew := ⟨_, rfl⟩
            have hd : Sat w wd (sep (isAM p (lkP L')) (sep (isQM q L') (sep (kn J3) (sep (isAM cp (lkP L)) emp)))) := by
              rw [hwd]
              have := HS.out.drew
              simpa only [sep_comm, sep_lcomm, sep_assoc] using this
            have hlen := nkeys_lk HL'.out.asc fun x hx => (HL'.out.each x hx).1
            obtain ⟨pa, pc, cells, hq0⟩ := isQM_open hd.p1
            have hal := alen_spec p (lkP L') (show Sat w wd (sep (isAM p (lkP L')) (sep (blk q (.cells #[.slice pa L'.length pc] 29 (0, 0))) (sep (osl 34 2 pa L'.length pc cells) (sep ((rPairQ.rows 2).is cells L') (sep (kn J3) (sep (isAM cp (lkP L)) emp)))))) by simpa only [sep_comm, sep_lcomm, sep_assoc] using hq0)
            rw [hlen] at hal
            obtain ⟨nl, hnl⟩ : ∃ nl, nl = L'.length := ⟨_, rfl⟩
            have hS0 : wd.cell? ⟨q, 0, none⟩ = some (.slice pa nl pc) := by rw [hnl]; exact hq0.cell 0
            rw [← hnl] at hal
            have HAL := Lib.hid hal
            have HNL := Lib.hid (And.intro hnl hwd)
            have gnl : ((nl : Int) != (nl : Int)) = false := by simp
            clear hd hlen hal hq0 hnl hwd HS
            go_wp2_with fail
            refine wp_region_canon rfl (fun w' => w'.cell? ⟨q, 0, none⟩ = some (.slice pa nl pc)) [(0, .p), (2, .p), (3, .p), (4, .p), (5, .s), (6, .p), (1, .e true), (7, .p), (8, .p), (9, .p), (11, .p), (10, .e false), (12, .e false), (13, .p), (14, .p), (15, .p), (16, .p), (18, .p), (17, .e false), (19, .p), (20, .p)] (by kernel_rfl) ?_
            rw [← HNL.out.2]
            (repeat (first | (refine C_p (v := ?_) rfl rfl (fun w' => ?_) ?_; rotate_left; (go_simp; with_reducible rfl); simp only [Act.put, List.setIfInBounds_toArray, List.set_cons_zero, List.set_cons_succ]) | (refine C_s (v := ?_) rfl rfl hS0 (fun w' hS => ?_) ?_; rotate_left; ((try dsimp only at hS); go_simp; with_reducible rfl); simp only [Act.put, List.setIfInBounds_toArray, List.set_cons_zero, List.set_cons_succ]) | (refine C_t (v := ?_) rfl rfl ?_ ?_; rotate_left; (go_simp; with_reducible rfl); simp only [Act.put, List.setIfInBounds_toArray, List.set_cons_zero, List.set_cons_succ]) | (refine C_po rfl rfl ?_; simp only [Act.put, List.setIfInBounds_toArray, List.set_cons_zero, List.set_cons_succ]) | (refine C_so rfl rfl hS0 ?_; simp only [Act.put, List.setIfInBounds_toArray, List.set_cons_zero, List.set_cons_succ]) | (refine C_to rfl rfl ?_; simp only [Act.put, List.setIfInBounds_toArray, List.set_cons_zero, List.set_cons_succ])))
            (refine C_e rfl rfl (fun K hK => ?_); go_simp)
            refine HAL.out.mono ?_
            rintro e w9 ⟨rfl, h9⟩
            have hS1 : w9.cell? ⟨q, 0, none⟩ = some (.slice pa nl pc) := h9.p1.cell 0
            have h9' := isQM_mk HNL.out.1 (show Sat w w9 (sep (blk q (.cells #[.slice pa nl pc] 29 (0, 0))) (sep (osl 34 2 pa nl pc cells) (sep ((rPairQ.rows 2).is cells L') (sep (isAM p (lkP L')) (sep (kn J3) (sep (isAM cp (lkP L)) emp)))))) by simpa only [sep_comm, sep_lcomm, sep_assoc] using h9)
            have HR1 := Lib.hid (aroot_spec HW.out p (lkP L') h9'.p1)
            clear HAL h9 h9' hS0
            (refine hK _ _ (fun _ => hS1) ?_; clear hK K; (try simp only [Act.put, List.setIfInBounds_toArray, List.set_cons_zero, List.set_cons_succ]))
            (repeat (first | (refine C_p (v := ?_) rfl rfl (fun w' => ?_) ?_; rotate_left; (go_simp; with_reducible rfl); simp only [Act.put, List.setIfInBounds_toArray, List.set_cons_zero, List.set_cons_succ]) | (refine C_s (v := ?_) rfl rfl hS0 (fun w' hS => ?_) ?_; rotate_left; ((try dsimp only at hS); go_simp; with_reducible rfl); simp only [Act.put, List.setIfInBounds_toArray, List.set_cons_zero, List.set_cons_succ]) | (refine C_t (v := ?_) rfl rfl ?_ ?_; rotate_left; (go_simp; with_reducible rfl); simp only [Act.put, List.setIfInBounds_toArray, List.set_cons_zero, List.set_cons_succ]) | (refine C_po rfl rfl ?_; simp only [Act.put, List.setIfInBounds_toArray, List.set_cons_zero, List.set_cons_succ]) | (refine C_so rfl rfl hS0 ?_; simp only [Act.put, List.setIfInBounds_toArray, List.set_cons_zero, List.set_cons_succ]) | (refine C_to rfl rfl ?_; simp only [Act.put, List.setIfInBounds_toArray, List.set_cons_zero, List.set_cons_succ])))
            (refine C_e rfl rfl (fun K hK => ?_); go_simp)
            refine HR1.out.mono ?_
            rintro e w10 ⟨rfl, h10⟩
            have HR2 := Lib.hid (qroot_spec (qv_own w q L') HL'.out.asc (by have := HL'.out.len; omega) (fun x hx => by have := (HL'.out.each x hx).2; omega) (show Sat w w10 (sep (isQM q L') (sep (kn J3) (sep (isAM p (lkP L')) (sep (isAM cp (lkP L)) emp)))) by simpa only [sep_comm, sep_lcomm, sep_assoc] using h10))
            obtain ⟨rt, hrt⟩ : ∃ z, z = rootN (lkP L') := ⟨_, rfl⟩
            rw [← hrt] at HR2 ⊢
            have grt : ((rt : Int) != (rt : Int)) = false := by simp
            clear HR1 h10 hS1 hrt
            (refine hK _ _ (fun h => by cases h) ?_; clear hK K; (try simp only [Act.put, List.setIfInBounds_toArray, List.set_cons_zero, List.set_cons_succ]))
            (repeat (first | (refine C_p (v := ?_) rfl rfl (fun w' => ?_) ?_; rotate_left; (go_simp; with_reducible rfl); simp only [Act.put, List.setIfInBounds_toArray, List.set_cons_zero, List.set_cons_succ]) | (refine C_s (v := ?_) rfl rfl hS0 (fun w' hS => ?_) ?_; rotate_left; ((try dsimp only at hS); go_simp; with_reducible rfl); simp only [Act.put, List.setIfInBounds_toArray, List.set_cons_zero, List.set_cons_succ]) | (refine C_t (v := ?_) rfl rfl ?_ ?_; rotate_left; (go_simp; with_reducible rfl); simp only [Act.put, List.setIfInBounds_toArray, List.set_cons_zero, List.set_cons_succ]) | (refine C_po rfl rfl ?_; simp only [Act.put, List.setIfInBounds_toArray, List.set_cons_zero, List.set_cons_succ]) | (refine C_so rfl rfl hS0 ?_; simp only [Act.put, List.setIfInBounds_toArray, List.set_cons_zero, List.set_cons_succ]) | (refine C_to rfl rfl ?_; simp only [Act.put, List.setIfInBounds_toArray, List.set_cons_zero, List.set_cons_succ])))
            (refine C_e rfl rfl (fun K hK => ?_); go_simp)
            refine HR2.out.mono ?_
            rintro e w11 ⟨rfl, h11⟩
            have hr3 := aroot_spec HW.out cp (lkP L) (show Sat w w11 (sep (isAM cp (lkP L)) (sep (isQM q L') (sep (kn J3) (sep (isAM p (lkP L')) emp)))) by simpa only [sep_comm, sep_lcomm, sep_assoc] using h11)
            rw [← HRT0.out] at hr3
            have HR3 := Lib.hid hr3
            have grt0 : ((rt0 : Int) != (rt0 : Int)) = false := by simp
            clear HR2 h11 hr3
            (refine hK _ _ (fun h => by cases h) ?_; clear hK K; (try simp only [Act.put, List.setIfInBounds_toArray, List.set_cons_zero, List.set_cons_succ]))
            (repeat (first | (refine C_p (v := ?_) rfl rfl (fun w' => ?_) ?_; rotate_left; (go_simp; with_reducible rfl); simp only [Act.put, List.setIfInBounds_toArray, List.set_cons_zero, List.set_cons_succ]) | (refine C_s (v := ?_) rfl rfl hS0 (fun w' hS => ?_) ?_; rotate_left; ((try dsimp only at hS); go_simp; with_reducible rfl); simp only [Act.put, List.setIfInBounds_toArray, List.set_cons_zero, List.set_cons_succ]) | (refine C_t (v := ?_) rfl rfl ?_ ?_; rotate_left; (go_simp; with_reducible rfl); simp only [Act.put, List.setIfInBounds_toArray, List.set_cons_zero, List.set_cons_succ]) | (refine C_po rfl rfl ?_; simp only [Act.put, List.setIfInBounds_toArray, List.set_cons_zero, List.set_cons_succ]) | (refine C_so rfl rfl hS0 ?_; simp only [Act.put, List.setIfInBounds_toArray, List.set_cons_zero, List.set_cons_succ]) | (refine C_to rfl rfl ?_; simp only [Act.put, List.setIfInBounds_toArray, List.set_cons_zero, List.set_cons_succ])))
            (refine C_e rfl rfl (fun K hK => ?_); go_simp)
            refine HR3.out.mono ?_
            rintro e w12 ⟨rfl, h12⟩
            have H12 : Hid (Sat w w12 (sep (isQM q L') (sep (isAM p (lkP L')) (sep (kn J3) emp)))) := Lib.hid (by
              obtain ⟨b1, f, b2, n2, h13⟩ := isAM_open h12
              have h14 := (show Sat w w12 (sep (bmap b1 f (nkeys (lkP L))) (sep (gmap bkv b2 (hmF (lkP L)) n2) (sep (vokA f (lkP L)) (sep (isQM q L') (sep (kn J3) (sep (isAM p (lkP L')) emp)))))) from h13.drop)
              obtain ⟨es, clock, -, -, -, h15⟩ := h14.bmap_open
              obtain ⟨es2, clock2, -, -, -, h16⟩ := (show Sat w w12 (sep (gmap bkv b2 (hmF (lkP L)) n2) (sep (vokA f (lkP L)) (sep (isQM q L') (sep (kn J3) (sep (isAM p (lkP L')) emp))))) from h15.drop).gmap_open
              have h17 := (show Sat w w12 (sep (vokA f (lkP L)) (sep (isQM q L') (sep (kn J3) (sep (isAM p (lkP L')) emp)))) from h16.drop).tail
              simpa only [sep_comm, sep_lcomm, sep_assoc] using h17)
            have HJF := Lib.hid (Mem.le_trans HJ.out (Mem.le_trans HJ'.out HJ3.out))
            clear HR3 h12
            (refine hK _ _ (fun h => by cases h) ?_; clear hK K; (try simp only [Act.put, List.setIfInBounds_toArray, List.set_cons_zero, List.set_cons_succ]))
            (repeat (first | (refine C_p (v := ?_) rfl rfl (fun w' => ?_) ?_; rotate_left; (go_simp; with_reducible rfl); simp only [Act.put, List.setIfInBounds_toArray, List.set_cons_zero, List.set_cons_succ]) | (refine C_s (v := ?_) rfl rfl hS0 (fun w' hS => ?_) ?_; rotate_left; ((try dsimp only at hS); go_simp; with_reducible rfl); simp only [Act.put, List.setIfInBounds_toArray, List.set_cons_zero, List.set_cons_succ]) | (refine C_t (v := ?_) rfl rfl ?_ ?_; rotate_left; (go_simp; with_reducible rfl); simp only [Act.put, List.setIfInBounds_toArray, List.set_cons_zero, List.set_cons_succ]) | (refine C_po rfl rfl ?_; simp only [Act.put, List.setIfInBounds_toArray, List.set_cons_zero, List.set_cons_succ]) | (refine C_so rfl rfl hS0 ?_; simp only [Act.put, List.setIfInBounds_toArray, List.set_cons_zero, List.set_cons_succ]) | (refine C_to rfl rfl ?_; simp only [Act.put, List.setIfInBounds_toArray, List.set_cons_zero, List.set_cons_succ])))
            refine C_nil ?_
            go_wp2_with fail
            go_roundw
            case rel => exact ⟨i + 1, L', J3, by omega, by go_num, HL', HJF, H12⟩
            case measure => simp only [intOf]; omega
    · obtain ⟨wm1, hmk, h6⟩ := make_bytes (P := Tryd.prog) (t := 32) (e := 5) Tryd.underlying32 infoU8c HS.out 65537 (by omega)
      obtain ⟨m1, hm1⟩ : ∃ m1, m1 = wr.heap.size := ⟨_, rfl⟩
      have hmk1 : (Instr.makeSlice 32 (.int .i64 65537) (.int .i64 65537)).run Tryd.prog wr = .ok (.slice (some ⟨m1, 0, none⟩) 65537 65537) wm1 := by rw [hm1]; exact hmk
      have HA := Lib.hid (aset_limit p 1 (some ⟨m1, 0, none⟩) 65537 65537 h6.forget_osl (by omega) (by omega))
      clear hmk h6 hm1 HS
      have HEND : Hid (∀ (w' : World), Sat w w' (sep (isQM q L) (sep (isAM p (lkP L)) (sep (kn J) emp))) → ∃ m2 wm2, (Instr.makeSlice 32 (.int .i64 65537) (.int .i64 65537)).run Tryd.prog w' = .ok (.slice (some ⟨m2, 0, none⟩) 65537 65537) wm2 ∧
          Calls Tryd.prog 13 #[.pointer (some ⟨p, 0, none⟩), .int .i64 (-1), .slice (some ⟨m2, 0, none⟩) 65537 65537] wm2 fun e w2 => e = .returned (.int .i64 5) ∧ Sat w w2 (sep (isQM q L) (sep (isAM p (lkP L)) (sep (kn J) emp)))) := Lib.hid fun w' h => by
        obtain ⟨wm2, hmk, h6⟩ := make_bytes (P := Tryd.prog) (t := 32) (e := 5) Tryd.underlying32 infoU8c h 65537 (by omega)
        exact ⟨w'.heap.size, wm2, hmk, aset_range p (-1) _ h6.forget_osl (by omega)⟩
      have HFIN : Hid (∀ (w' : World), Sat w w' (sep (isQM q L) (sep (isAM p (lkP L)) (sep (kn J) emp))) → Calls Tryd.prog 24 #[] w' fun e w2 => e = .returned (.bool true) ∧ Below w.heap.size w w2) := Lib.hid fun w' h =>
        (lives33_spec HW.out (show Sat w w' (sep (kn J) (sep (isQM q L) (sep (isAM p (lkP L)) emp))) by simpa only [sep_comm, sep_lcomm, sep_assoc] using h)).mono fun e w2 ⟨h1, h2⟩ => ⟨h1, h2.below⟩
      by_cases hi1 : i < len0
      · have g1 : (i : Int) < (len0 : Int) := by omega
        have g2 : ¬ (i : Int) < 16 := by omega
        clear hlt
        go_wp2_with fail
        refine HA.out.mono ?_
        rintro e w5 ⟨rfl, h7⟩
        obtain ⟨m2, wm2, hmk2, hA2⟩ := HEND.out w5 h7
        have HA2 := Lib.hid hA2
        clear HA HEND h7 hmk1 hA2
        go_wp2_with fail
        refine HA2.out.mono ?_
        rintro e w6 ⟨rfl, h8⟩
        have HL3 := Lib.hid (HFIN.out w6 h8)
        clear HA2 HFIN h8 hmk2
        go_wp2_with fail
        refine HL3.out.mono ?_
        rintro e w7 ⟨rfl, hb⟩
        go_wp2_with fail
        go_ret
        exact ⟨rfl, hb⟩
      · have g1 : ¬ (i : Int) < (len0 : Int) := by omega
        clear hlt
        go_wp2_with fail
        refine HA.out.mono ?_
        rintro e w5 ⟨rfl, h7⟩
        obtain ⟨m2, wm2, hmk2, hA2⟩ := HEND.out w5 h7
        have HA2 := Lib.hid hA2
        clear HA HEND h7 hmk1 hA2
        go_wp2_with fail
        refine HA2.out.mono ?_
        rintro e w6 ⟨rfl, h8⟩
        have HL3 := Lib.hid (HFIN.out w6 h8)
        clear HA2 HFIN h8 hmk2
        go_wp2_with fail
        refine HL3.out.mono ?_
        rintro e w7 ⟨rfl, hb⟩
        go_wp2_with fail
        go_ret
        exact ⟨rfl, hb⟩
end Go.Proofs.YtcmjbjlliehdiaaDoor
