/- AuthmapApart, the walk. -/
import Derived.Test.YtcmjbjlliehdiaaDoorGAuthmapApart42
import Derived.Test.YtcmjbjlliehdiaaDoorGAuthmapApart44
import Derived.Test.YtcmjbjlliehdiaaDoorGAuthmapApartSQc
import Derived.Test.YtcmjbjlliehdiaaDoorGAuthmapApart33
import Derived.Test.YtcmjbjlliehdiaaDoorGAuthmapApart19
import Derived.Deep.DeepCutAuto
namespace Go.Proofs.YtcmjbjlliehdiaaDoor
open Go.RowKit PA
attribute [local go_sem] Oper.semAt_some
/-- M is M0 but for keys from lo to hi, its values not too long. -/
theorem wrap_u8A (x : Int) : ∃ y : UInt8, IntKind.u8.wrap x = (y.toNat : Int) := by
  refine ⟨UInt8.ofNat (x % 256).toNat, ?_⟩
  rw [UInt8.toNat_ofNat', Nat.mod_eq_of_lt (by omega)]
  have : IntKind.u8.wrap x = x % 256 := by unfold IntKind.wrap; rfl
  rw [this]; omega
def Ap (M0 M : KVs) (lo hi : Int) : Prop := (∀ k, k < lo ∨ hi < k → M k = M0 k) ∧ ∀ k v, M k = some v → v.length ≤ 65536
theorem Ap.set {M0 M : KVs} {lo hi k : Int} {o : Option (List UInt8)} (h : Ap M0 M lo hi) (hk : lo ≤ k ∧ k ≤ hi) (ho : ∀ v, o = some v → v.length ≤ 65536) : Ap M0 (fset M k o) lo hi := by
  refine ⟨fun j hj => ?_, fun j v hv => ?_⟩
  · unfold fset; rw [if_neg (by omega)]; exact h.1 j hj
  · unfold fset at hv
    split at hv
    · exact ho v hv
    · exact h.2 j v hv
theorem lkP_len {L : PrL} (hvl : ∀ x ∈ L, x.2.length ≤ 65536) : ∀ k v, lkP L k = some v → v.length ≤ 65536 := by
  intro k v hk
  induction L with
  | nil => cases hk
  | cons x L ih =>
    rw [lkP] at hk
    split at hk
    · cases hk; exact hvl x (by simp)
    · exact ih (fun y hy => hvl y (by simp [hy])) hk
theorem lk_memA {L : PrL} {k : Int} (h : (lkP L k).isSome = true) : k ∈ L.map (·.1) := by
  refine Classical.byContradiction fun hn => ?_
  rw [lkP_none fun x hx e => hn (List.mem_map.2 ⟨x, hx, e⟩)] at h
  cases h
theorem ints_cellA {I : Mem} {w : World} {a : Option Addr} {n c : Nat} {ns : List Int} (hn : n = ns.length) (hv : (rInt.slice 1).rel I [.slice a n c] ns) (he : Ext I w) (k : Nat) (hk : k < n) :
    ∃ b o, a = some ⟨b, o, none⟩ ∧ w.cell? ⟨b, o + k, none⟩ = some (.int .i64 (ns[k]'(hn ▸ hk))) := by
  subst hn
  obtain ⟨a', c', e, hw, hc⟩ := ints_rel.1 hv
  cases e
  obtain ⟨b, o, e, h⟩ := cells_ext hc (fun e => by have := congrArg List.length e; rw [List.length_map, List.length_nil] at this; omega)
  exact ⟨b, o, e, h w he k _ (by rw [List.getElem?_map, List.getElem?_eq_getElem hk]; rfl)⟩
theorem akeys_lenR {M : KVs} {L : PrL} {lo hi : Int} (h : Ap (lkP L) M lo hi) (h0 : 0 ≤ lo ∧ hi ≤ 4095) {ks : List Int} (hk : AKeys M ks) : ks.length ≤ 4096 + L.length := by
  have hnd : ks.Nodup := hk.1.imp fun h => by omega
  have : ks.length ≤ (((List.range 4096).map fun i : Nat => (i : Int)) ++ L.map (·.1)).length := by
    refine nodup_sub_len ks _ hnd fun k hm => ?_
    by_cases hin : lo ≤ k ∧ k ≤ hi
    · refine List.mem_append_left _ (List.mem_map.2 ⟨k.toNat, List.mem_range.2 (by omega), by omega⟩)
    · have h1 := (hk.2 k).1 hm
      rw [h.1 k (by omega)] at h1
      exact List.mem_append_right _ (lk_memA h1)
  simpa using this
set_option maxRecDepth 100000 in
set_option maxHeartbeats 16000000 in
theorem authmapApart_walk (a0 : Option Addr) (len0 cap0 : Nat) (z0 : List Int) (a1 a2 : Int) (a3 : Option Addr) (len3 cap3 : Nat) (z3 : List Int) (w : World) (hW : WholeOK w)
    (w0 : IsArg w a0 len0 cap0 z0) (w1 : (Lit.int .i64 a1).wf = true) (w2 : (Lit.int .i64 a2).wf = true) (w3 : IsArg w a3 len3 cap3 z3) :
    Calls Tryd.prog 10 #[.slice a0 len0 cap0, .int .i64 a1, .int .i64 a2, .slice a3 len3 cap3] w fun e w' => e = .returned (.bool true) ∧ Below w.heap.size w w' := by
  obtain ⟨ns, hns, hr0, h64⟩ := argI w0
  obtain ⟨ms, hms, hr3, h643⟩ := argI w3
  have HM1 := Lib.hid (made_kn a0 len0 cap0 ns 12 (by omega) hns h64 hr0 (Sat.startKn w))
  have HMS := Lib.hid (And.intro hms (And.intro hr3 h643))
  have HW := Lib.hid hW
  have hb1 := keyQ_range a1
  have hb2 := keyQ_range a2
  obtain ⟨k1, hk1⟩ : ∃ z, z = keyQ a1 := ⟨_, rfl⟩
  obtain ⟨k2, hk2⟩ : ∃ z, z = keyQ a2 := ⟨_, rfl⟩
  have HK1 := Lib.hid (fun (w' : World) (A : Assn) (h : Sat w w' A) => qkey_spec a1 (i64_of_wf w1) h)
  have HK2 := Lib.hid (fun (w' : World) (A : Assn) (h : Sat w w' A) => qkey_spec a2 (i64_of_wf w2) h)
  rw [← hk1] at HK1 hb1
  rw [← hk2] at HK2 hb2
  obtain ⟨lo, hlo⟩ : ∃ z, z = min k1 k2 := ⟨_, rfl⟩
  obtain ⟨hi, hhi⟩ : ∃ z, z = max k1 k2 := ⟨_, rfl⟩
  have elo : min k1 k2 = lo := hlo.symm
  have ehi : max k1 k2 = hi := hhi.symm
  have HBB := Lib.hid (show 0 ≤ lo ∧ lo ≤ hi ∧ hi ≤ 4095 by omega)
  clear hW w0 w1 w2 w3 hns hr0 h64 hms hr3 h643 hb1 hb2 hk1 hk2 hlo hhi
  go_enter Tryd.func10, Tryd.ntmps10
  go_wp2_with fail
  refine HM1.out.mono ?_
  rintro e w2 ⟨q1, J1, pa, pc, L, rfl, -, hLA, hLl, hLk, hJ1, hqR, hrL, hcL, h2⟩
  have c0 := hcL w2 h2.ext
  obtain ⟨nL, hnL⟩ : ∃ nL, nL = L.length := ⟨_, rfl⟩
  rw [← hnL] at c0 hrL hcL hLl
  have HF := Lib.hid (filled_lk HW.out pa nL pc L h2 hrL hnL (by omega) hLA hLk)
  have HL := Lib.hid (And.intro hLA (And.intro (show L.length ≤ 14 by omega) hLk))
  have HJ1 := Lib.hid hJ1
  clear HM1 h2 hLA hLk hLl hqR hrL hcL hnL hJ1
  go_wp2_with fail
  refine HF.out.mono ?_
  rintro e w3 ⟨p1, rfl, h3⟩
  have HKA := Lib.hid (HK1.out w3 _ h3)
  clear HF h3 c0
  go_wp2_with fail
  refine HKA.out.mono ?_
  rintro e w4 ⟨rfl, h4⟩
  have HKB := Lib.hid (HK2.out w4 _ h4)
  clear HKA h4
  go_wp2_with fail
  refine HKB.out.mono ?_
  rintro e w5 ⟨rfl, h5⟩
  have HKC := Lib.hid (HK1.out w5 _ h5)
  clear HKB h5
  go_wp2_with fail
  refine HKC.out.mono ?_
  rintro e w6 ⟨rfl, h6⟩
  have HKD := Lib.hid (HK2.out w6 _ h6)
  clear HKC h6 HK1 HK2
  go_wp2_with fail
  refine HKD.out.mono ?_
  rintro e w7 ⟨rfl, h7⟩
  have HR1 := Lib.hid (arange_kn HW.out p1 (lkP L) lo hi h7 HBB.out)
  clear HKD h7
  go_wp2_with fail
  refine HR1.out.mono ?_
  rintro e w8 ⟨ra, rn, rc, ks, la, nl, lc, ta, nt, tc, sa, ns', sc, J2, -, hJ2, rfl, -, -, hpr, h8⟩
  have h9 := h8.alloc (.cells #[.slice la nl lc, .slice ta nt tc, .slice sa ns' sc] 40)
  obtain ⟨x1, hx1⟩ : ∃ x1, x1 = w8.heap.size := ⟨_, rfl⟩
  obtain ⟨w9, hw9⟩ : ∃ z, z = w8.alloc (.cells #[.slice la nl lc, .slice ta nt tc, .slice sa ns' sc] 40) := ⟨_, rfl⟩
  rw [← hx1, ← hw9] at h9
  have HQ1 := Lib.hid (And.intro hx1 hw9)
  have hcp := acopy_spec p1 (lkP L) (show Sat w w9 (sep (isAM p1 (lkP L)) (sep (kn J2) (sep (blk x1 (.cells #[.slice la nl lc, .slice ta nt tc, .slice sa ns' sc] 40 (0, 0))) emp))) by simpa only [sep_comm, sep_lcomm, sep_assoc] using h9)
  have HCP := Lib.hid hcp
  have HPR := Lib.hid hpr
  have HJ2 := Lib.hid (Mem.le_trans HJ1.out hJ2)
  clear HR1 h8 h9 hx1 hw9 hpr hJ2 hcp
  go_upto_region 7 with (fail)
  rw [← HQ1.out.1, ← HQ1.out.2]
  go_wp2_with fail
  refine HCP.out.mono ?_
  rintro e w10 ⟨p2, rfl, h10⟩
  have H10 := Lib.hid h10
  clear HCP h10
  go_upto_block 0 with (fail)
  go_cut [] (fun wx => ∃ (M : KVs) (J : Mem), Hid (Ap (lkP L) M lo hi) ∧ Hid (Mem.le J2 J) ∧ Hid (Sat w wx (sep (isAM p1 M) (sep (kn J) (sep (isAM p2 (lkP L)) (sep (blk x1 (.cells #[.slice la nl lc, .slice ta nt tc, .slice sa ns' sc] 40 (0, 0))) emp))))))
  case first =>
    go_wp2_with fail
    go_loopw [16] (fun iv wr => ∃ (j : Nat) (M : KVs) (J : Mem), j ≤ 10 ∧ iv = .int .i64 (j : Nat) ∧ Hid (Ap (lkP L) M lo hi) ∧ Hid (Mem.le J2 J) ∧ Hid (Sat w wr (sep (isAM p1 M) (sep (kn J) (sep (isAM p2 (lkP L)) (sep (blk x1 (.cells #[.slice la nl lc, .slice ta nt tc, .slice sa ns' sc] 40 (0, 0))) emp)))))) (fun iv _ => 10 - (intOf iv).toNat)
    case atStart =>
      refine ⟨0, lkP L, J2, by omega, rfl, Lib.hid ⟨fun _ _ => rfl, lkP_len fun x hx => ?_⟩, Lib.hid (Mem.le_refl _), Lib.hid (by have := H10.out; simpa only [sep_comm, sep_lcomm, sep_assoc] using this)⟩
      have := (HL.out.2.2 x hx).2
      omega
    case round =>
      clear H10
      obtain ⟨j, M, J, hj, rfl, HAp, HJ, HS⟩ := hrel
      by_cases hlt : j < len3 ∧ j < 10
      · obtain ⟨hi1, hi2⟩ := hlt
        have g1 : (j : Int) < (len3 : Int) := by omega
        have g2 : (j : Int) < 10 := by omega
        have hext : Ext J wr := HS.out.p1.ext
        obtain ⟨bb, oo, rfl, hcell⟩ := ints_cellA HMS.out.1 ((rInt.slice 1).mono (Mem.le_trans HJ2.out HJ.out) HMS.out.2.1) hext j hi1
        obtain ⟨z, hz⟩ : ∃ z, z = ms[j]'(by have := HMS.out.1; omega) := ⟨_, rfl⟩
        have hz64 : I64' z := by rw [hz]; exact HMS.out.2.2 _ (List.getElem_mem _)
        rw [← hz] at hcell
        have hb := HBB.out
        obtain ⟨hb0, hb1, hb2⟩ := hb
        obtain ⟨d, hd⟩ : ∃ d, d = hi - lo := ⟨_, rfl⟩
        have ed : hi - lo = d := hd.symm
        have hd1 : 0 ≤ d := by omega
        have hd2 : d ≤ 4095 := by omega
        have HA1 := Lib.hid (around_spec z (d + 1) wr hz64.1 hz64.2 (by omega) (by omega))
        have hx := aroundI_lt z (d + 1) (by omega)
        obtain ⟨x, hx0⟩ : ∃ x, x = aroundI z (d + 1) := ⟨_, rfl⟩
        rw [← hx0] at HA1 hx
        have hx1 : 0 ≤ x := hx.1
        have hx2 : x ≤ 4095 := by omega
        have HKR := Lib.hid (And.intro (show lo ≤ lo + x ∧ lo + x ≤ hi by omega) (And.intro hz64 (show 0 ≤ lo + x ∧ lo + x ≤ 4095 by omega)))
        clear hz hz64 hx0 hext hi1 hx hd
        obtain ⟨r, hr⟩ : ∃ r, r = j % 3 := ⟨_, rfl⟩
        have hr3 : (j : Int).tmod 3 = (r : Int) := by rw [Int.tmod_eq_emod_of_nonneg (by omega)]; omega
        clear hr
        go_wp2_with fail
        refine HA1.out.mono ?_
        rintro e w11 ⟨rfl, rfl⟩
        clear HA1
        by_cases h2 : r = 2
        · subst h2
          cases hmk : M (lo + x) with
          | none =>
            have HD := Lib.hid (adel_none p1 M (lo + x) HS.out HKR.out.2.2 hmk)
            clear HS hcell
            go_wp2_with fail
            refine HD.out.mono ?_
            rintro e w12 ⟨rfl, h12⟩
            have H12 := Lib.hid h12
            clear HD h12
            go_wp2_with fail
            go_roundw
            case rel => exact ⟨j + 1, M, J, by omega, by go_num, HAp, HJ, H12⟩
            case measure => simp only [intOf]; omega
          | some v0 =>
            have HD := Lib.hid (adel_ok HW.out p1 M (lo + x) HS.out HKR.out.2.2 (by rw [hmk]; rfl))
            have HAp2 := Lib.hid (HAp.out.set (o := none) HKR.out.1 (fun v e => by cases e))
            clear HS hcell
            go_wp2_with fail
            refine HD.out.mono ?_
            rintro e w12 ⟨rfl, h12⟩
            have H12 := Lib.hid h12
            clear HD h12
            go_wp2_with fail
            go_roundw
            case rel => exact ⟨j + 1, _, J, by omega, by go_num, HAp2, HJ, H12⟩
            case measure => simp only [intOf]; omega
        · have hrB : ((r : Int) == 2) = false := by simp; omega
          obtain ⟨c1, hc1⟩ := wrap_u8A (j : Int)
          obtain ⟨c2, hc2⟩ := wrap_u8A z
          obtain ⟨J3, hJ3, hrb, h11⟩ := (show Sat w (wr.alloc (.cells ([c1, c2].map bv).toArray 5)) (sep (rBytes.is [.slice (some ⟨wr.heap.size, 0, none⟩) 2 2] [c1, c2]) (sep (kn J) (sep (isAM p1 M) (sep (isAM p2 (lkP L)) (sep (blk x1 (.cells #[.slice la nl lc, .slice ta nt tc, .slice sa ns' sc] 40 (0, 0))) emp))))) from
            (show Sat w wr (sep (kn J) (sep (isAM p1 M) (sep (isAM p2 (lkP L)) (sep (blk x1 (.cells #[.slice la nl lc, .slice ta nt tc, .slice sa ns' sc] 40 (0, 0))) emp)))) from HS.out.p1).bytes_of_alloc [c1, c2] 5 (0, 0) (show 2 ≤ maxLen by unfold maxLen; omega)).learn
          have HST : Hid (Calls Tryd.prog 13 #[.pointer (some ⟨p1, 0, none⟩), .int .i64 (lo + x), .slice (some ⟨wr.heap.size, 0, none⟩) 2 2] (wr.alloc (.cells #[.int .u8 (c1.toNat : Int), .int .u8 (c2.toNat : Int)] 5)) fun e w' => e = .returned (.int .i64 0) ∧ Sat w w' (sep (isAM p1 (fset M (lo + x) (some [c1, c2]))) (sep (kn J3) (sep (isAM p2 (lkP L)) (sep (blk x1 (.cells #[.slice la nl lc, .slice ta nt tc, .slice sa ns' sc] 40 (0, 0))) emp))))) := Lib.hid (aset_ok HW.out p1 M (lo + x) _ [c1, c2] h11.p1 hrb HKR.out.2.2 (show 2 ≤ 65536 by omega))
          have HAp2 := Lib.hid (HAp.out.set (o := some [c1, c2]) HKR.out.1 (fun v e => by cases e; exact (show 2 ≤ 65536 by omega)))
          have HJ3 := Lib.hid (Mem.le_trans HJ.out hJ3)
          clear HS h11 hrb hJ3 h2
          go_wp2_with fail
          refine HST.out.mono ?_
          rintro e w12 ⟨rfl, h12⟩
          have H12 := Lib.hid h12
          clear HST h12 hcell hc1 hc2
          go_wp2_with fail
          go_roundw
          case rel => exact ⟨j + 1, _, J3, by omega, by go_num, HAp2, HJ3, H12⟩
          case measure => simp only [intOf]; omega
      · by_cases hl3 : j < len3
        · have g1 : (j : Int) < (len3 : Int) := by omega
          have g2 : ¬ (j : Int) < 10 := by omega
          clear hlt hl3
          go_wp2_with fail
          go_meet
          exact ⟨M, J, HAp, HJ, HS⟩
        · have g1 : ¬ (j : Int) < (len3 : Int) := by omega
          clear hlt hl3
          go_wp2_with fail
          go_meet
          exact ⟨M, J, HAp, HJ, HS⟩
  case rest =>
    clear H10
    obtain ⟨M, J, HAp, HJ, HS⟩ := hcut
    have HR2 := Lib.hid (arange_kn HW.out p1 M lo hi HS.out HBB.out)
    clear HS
    go_wp2_with fail
    refine HR2.out.mono ?_
    rintro e w12 ⟨ra2, rn2, rc2, ks2, la2, nl2, lc2, ta2, nt2, tc2, sa2, ns2, sc2, J4, hks, hJ4, rfl, hrn, hrr, hpr2, h12⟩
    have h13 := h12.alloc (.cells #[.slice la2 nl2 lc2, .slice ta2 nt2 tc2, .slice sa2 ns2 sc2] 40)
    obtain ⟨x2, hx2⟩ : ∃ z, z = w12.heap.size := ⟨_, rfl⟩
    obtain ⟨w13, hw13⟩ : ∃ z, z = w12.alloc (.cells #[.slice la2 nl2 lc2, .slice ta2 nt2 tc2, .slice sa2 ns2 sc2] 40) := ⟨_, rfl⟩
    rw [← hx2, ← hw13] at h13
    have HQ2 := Lib.hid (And.intro hx2 hw13)
    have hsame : rngP M lo hi = rngP (lkP L) lo hi := rngP_same HAp.out.1
    have hck := check_range HBB.out hks HAp.out.2
    have hPl : (pairsL M lo hi ks2).length ≤ 1000000 := by
      have h1 := pairsL_len M lo hi ks2
      have h2 := akeys_lenR HAp.out ⟨HBB.out.1, HBB.out.2.2⟩ hks
      have := HL.out.2.1
      omega
    have hPS := rngP_S M lo hi
    rw [hsame] at hck hpr2 hPS
    obtain ⟨PL, hPL⟩ : ∃ z, z = pairsL M lo hi ks2 := ⟨_, rfl⟩
    obtain ⟨PR, hPR⟩ : ∃ z, z = rngP (lkP L) lo hi := ⟨_, rfl⟩
    obtain ⟨rt, hrt⟩ : ∃ z, z = rootN M := ⟨_, rfl⟩
    rw [← hPL] at hrr hck hPl
    have hprx := HPR.out
    rw [← hPR] at hpr2 hck hPS hprx
    rw [← hrt] at hck
    have hd : Sat w w13.drew (sep (kn J4) (sep (blk x2 (.cells #[.slice la2 nl2 lc2, .slice ta2 nt2 tc2, .slice sa2 ns2 sc2] 40 (0, 0))) (sep (blk x1 (.cells #[.slice la nl lc, .slice ta nt tc, .slice sa ns' sc] 40 (0, 0))) (sep (isAM p1 M) (sep (isAM p2 (lkP L)) emp))))) := by
      have := h13.drew
      simpa only [sep_comm, sep_lcomm, sep_assoc] using this
    have HJ4 := Lib.hid (Mem.le_trans HJ2.out (Mem.le_trans HJ.out hJ4))
    have HPP := Lib.hid (And.intro hrr (And.intro hPl (And.intro hpr2 (And.intro (prfR.mono (Mem.le_trans HJ.out hJ4) hprx) (And.intro hPS.ok (And.intro hck hrt))))))
    obtain ⟨wd, hwd⟩ : ∃ z, z = w13.drew := ⟨_, rfl⟩
    rw [← hwd] at hd
    have hS0 : (wd.cell? ⟨x2, 0, none⟩ = some (.slice la2 nl2 lc2) ∧ wd.cell? ⟨x2, 1, none⟩ = some (.slice ta2 nt2 tc2) ∧ wd.cell? ⟨x2, 2, none⟩ = some (.slice sa2 ns2 sc2)) ∧ wd.cell? ⟨x1, 0, none⟩ = some (.slice la nl lc) ∧ wd.cell? ⟨x1, 1, none⟩ = some (.slice ta nt tc) ∧ wd.cell? ⟨x1, 2, none⟩ = some (.slice sa ns' sc) := ⟨⟨hd.p1.cell 0, hd.p1.cell 1, hd.p1.cell 2⟩, hd.p2.cell 0, hd.p2.cell 1, hd.p2.cell 2⟩
    obtain ⟨⟨-, -, -⟩, e0, e1, e2⟩ := id hS0
    have HB1 := Lib.hid (bare_spec la ta sa nl nt ns' lc tc sc hd)
    have HWD := Lib.hid hwd
    clear HR2 h12 h13 hx2 hw13 hks hJ4 hrn hrr hpr2 hprx hPL hPR hrt hPl hPS hsame hck hd hwd
    go_upto_region 17 with (fail)
    rw [← HQ2.out.1, ← HQ2.out.2]
    refine wp_region_canon rfl (fun w' => (w'.cell? ⟨x2, 0, none⟩ = some (.slice la2 nl2 lc2) ∧ w'.cell? ⟨x2, 1, none⟩ = some (.slice ta2 nt2 tc2) ∧ w'.cell? ⟨x2, 2, none⟩ = some (.slice sa2 ns2 sc2)) ∧ w'.cell? ⟨x1, 0, none⟩ = some (.slice la nl lc) ∧ w'.cell? ⟨x1, 1, none⟩ = some (.slice ta nt tc) ∧ w'.cell? ⟨x1, 2, none⟩ = some (.slice sa ns' sc)) [(0, .p), (1, .p), (2, .p), (3, .p), (4, .p), (5, .p), (6, .p), (7, .p), (8, .p), (9, .p), (10, .p), (11, .t), (13, .s), (12, .e true), (14, .e true), (15, .e true), (16, .p), (17, .p), (18, .p), (19, .p), (21, .p), (22, .p), (23, .p), (24, .s), (20, .e true), (25, .e false), (26, .p), (27, .p)] (by kernel_rfl) ?_
    rw [← HWD.out]
    (repeat (first | (refine C_p (v := ?_) rfl rfl (fun w' => ?_) ?_; rotate_left; (go_simp; with_reducible rfl); simp only [Act.put, List.setIfInBounds_toArray, List.set_cons_zero, List.set_cons_succ]) | (refine C_s (v := ?_) rfl rfl hS0 (fun w' hS => ?_) ?_; rotate_left; ((try dsimp only at hS); go_simp; with_reducible rfl); simp only [Act.put, List.setIfInBounds_toArray, List.set_cons_zero, List.set_cons_succ]) | (refine C_t (v := ?_) rfl rfl ?_ ?_; rotate_left; (go_simp; with_reducible rfl); simp only [Act.put, List.setIfInBounds_toArray, List.set_cons_zero, List.set_cons_succ]) | (refine C_po rfl rfl ?_; simp only [Act.put, List.setIfInBounds_toArray, List.set_cons_zero, List.set_cons_succ]) | (refine C_so rfl rfl hS0 ?_; simp only [Act.put, List.setIfInBounds_toArray, List.set_cons_zero, List.set_cons_succ]) | (refine C_to rfl rfl ?_; simp only [Act.put, List.setIfInBounds_toArray, List.set_cons_zero, List.set_cons_succ])))
    (refine C_e rfl rfl (fun K hK => ?_); go_simp)
    refine HB1.out.mono ?_
    rintro e w14 ⟨rfl, h14⟩
    have hS1 : (w14.cell? ⟨x2, 0, none⟩ = some (.slice la2 nl2 lc2) ∧ w14.cell? ⟨x2, 1, none⟩ = some (.slice ta2 nt2 tc2) ∧ w14.cell? ⟨x2, 2, none⟩ = some (.slice sa2 ns2 sc2)) ∧ w14.cell? ⟨x1, 0, none⟩ = some (.slice la nl lc) ∧ w14.cell? ⟨x1, 1, none⟩ = some (.slice ta nt tc) ∧ w14.cell? ⟨x1, 2, none⟩ = some (.slice sa ns' sc) := ⟨⟨h14.p1.cell 0, h14.p1.cell 1, h14.p1.cell 2⟩, h14.p2.cell 0, h14.p2.cell 1, h14.p2.cell 2⟩
    have HB2 := Lib.hid (bare_spec la2 ta2 sa2 nl2 nt2 ns2 lc2 tc2 sc2 h14)
    clear HB1 h14 hS0 e0 e1 e2
    (refine hK _ _ (fun _ => hS1) ?_; clear hK K; (try simp only [Act.put, List.setIfInBounds_toArray, List.set_cons_zero, List.set_cons_succ]))
    have hS0 := hS1
    clear hS1
    (repeat (first | (refine C_p (v := ?_) rfl rfl (fun w' => ?_) ?_; rotate_left; (go_simp; with_reducible rfl); simp only [Act.put, List.setIfInBounds_toArray, List.set_cons_zero, List.set_cons_succ]) | (refine C_s (v := ?_) rfl rfl hS0 (fun w' hS => ?_) ?_; rotate_left; ((try dsimp only at hS); go_simp; with_reducible rfl); simp only [Act.put, List.setIfInBounds_toArray, List.set_cons_zero, List.set_cons_succ]) | (refine C_t (v := ?_) rfl rfl ?_ ?_; rotate_left; (go_simp; with_reducible rfl); simp only [Act.put, List.setIfInBounds_toArray, List.set_cons_zero, List.set_cons_succ]) | (refine C_po rfl rfl ?_; simp only [Act.put, List.setIfInBounds_toArray, List.set_cons_zero, List.set_cons_succ]) | (refine C_so rfl rfl hS0 ?_; simp only [Act.put, List.setIfInBounds_toArray, List.set_cons_zero, List.set_cons_succ]) | (refine C_to rfl rfl ?_; simp only [Act.put, List.setIfInBounds_toArray, List.set_cons_zero, List.set_cons_succ])))
    (refine C_e rfl rfl (fun K hK => ?_); go_simp)
    refine HB2.out.mono ?_
    rintro e w15 ⟨rfl, h15⟩
    have hS1 : (w15.cell? ⟨x2, 0, none⟩ = some (.slice la2 nl2 lc2) ∧ w15.cell? ⟨x2, 1, none⟩ = some (.slice ta2 nt2 tc2) ∧ w15.cell? ⟨x2, 2, none⟩ = some (.slice sa2 ns2 sc2)) ∧ w15.cell? ⟨x1, 0, none⟩ = some (.slice la nl lc) ∧ w15.cell? ⟨x1, 1, none⟩ = some (.slice ta nt tc) ∧ w15.cell? ⟨x1, 2, none⟩ = some (.slice sa ns' sc) := ⟨⟨h15.p1.cell 0, h15.p1.cell 1, h15.p1.cell 2⟩, h15.p2.cell 0, h15.p2.cell 1, h15.p2.cell 2⟩
    have hsf := sameProof_spec _ _ PR PR h15 HPP.out.2.2.2.1 HPP.out.2.2.1
    rw [decide_eq_true rfl] at hsf
    have HSF := Lib.hid hsf
    clear HB2 h15 hS0 hsf
    (refine hK _ _ (fun _ => hS1) ?_; clear hK K; (try simp only [Act.put, List.setIfInBounds_toArray, List.set_cons_zero, List.set_cons_succ]))
    have hS0 := hS1
    clear hS1
    (repeat (first | (refine C_p (v := ?_) rfl rfl (fun w' => ?_) ?_; rotate_left; (go_simp; with_reducible rfl); simp only [Act.put, List.setIfInBounds_toArray, List.set_cons_zero, List.set_cons_succ]) | (refine C_s (v := ?_) rfl rfl hS0 (fun w' hS => ?_) ?_; rotate_left; ((try dsimp only at hS); go_simp; with_reducible rfl); simp only [Act.put, List.setIfInBounds_toArray, List.set_cons_zero, List.set_cons_succ]) | (refine C_t (v := ?_) rfl rfl ?_ ?_; rotate_left; (go_simp; with_reducible rfl); simp only [Act.put, List.setIfInBounds_toArray, List.set_cons_zero, List.set_cons_succ]) | (refine C_po rfl rfl ?_; simp only [Act.put, List.setIfInBounds_toArray, List.set_cons_zero, List.set_cons_succ]) | (refine C_so rfl rfl hS0 ?_; simp only [Act.put, List.setIfInBounds_toArray, List.set_cons_zero, List.set_cons_succ]) | (refine C_to rfl rfl ?_; simp only [Act.put, List.setIfInBounds_toArray, List.set_cons_zero, List.set_cons_succ])))
    (refine C_e rfl rfl (fun K hK => ?_); go_simp)
    refine HSF.out.mono ?_
    rintro e w16 ⟨rfl, h16⟩
    have hS1 : (w16.cell? ⟨x2, 0, none⟩ = some (.slice la2 nl2 lc2) ∧ w16.cell? ⟨x2, 1, none⟩ = some (.slice ta2 nt2 tc2) ∧ w16.cell? ⟨x2, 2, none⟩ = some (.slice sa2 ns2 sc2)) ∧ w16.cell? ⟨x1, 0, none⟩ = some (.slice la nl lc) ∧ w16.cell? ⟨x1, 1, none⟩ = some (.slice ta nt tc) ∧ w16.cell? ⟨x1, 2, none⟩ = some (.slice sa ns' sc) := ⟨⟨h16.p1.cell 0, h16.p1.cell 1, h16.p1.cell 2⟩, h16.p2.cell 0, h16.p2.cell 1, h16.p2.cell 2⟩
    have hroot := aroot_spec HW.out p1 M (show Sat w w16 (sep (isAM p1 M) (sep (kn J4) (sep (blk x2 (.cells #[.slice la2 nl2 lc2, .slice ta2 nt2 tc2, .slice sa2 ns2 sc2] 40 (0, 0))) (sep (blk x1 (.cells #[.slice la nl lc, .slice ta nt tc, .slice sa ns' sc] 40 (0, 0))) (sep (isAM p2 (lkP L)) emp))))) by simpa only [sep_comm, sep_lcomm, sep_assoc] using h16)
    rw [← HPP.out.2.2.2.2.2.2] at hroot
    have HRT := Lib.hid hroot
    clear HSF h16 hS0 hroot
    (refine hK _ _ (fun _ => hS1) ?_; clear hK K; (try simp only [Act.put, List.setIfInBounds_toArray, List.set_cons_zero, List.set_cons_succ]))
    have hS0 := hS1
    clear hS1
    (repeat (first | (refine C_p (v := ?_) rfl rfl (fun w' => ?_) ?_; rotate_left; (go_simp; with_reducible rfl); simp only [Act.put, List.setIfInBounds_toArray, List.set_cons_zero, List.set_cons_succ]) | (refine C_s (v := ?_) rfl rfl hS0 (fun w' hS => ?_) ?_; rotate_left; ((try dsimp only at hS); go_simp; with_reducible rfl); simp only [Act.put, List.setIfInBounds_toArray, List.set_cons_zero, List.set_cons_succ]) | (refine C_t (v := ?_) rfl rfl ?_ ?_; rotate_left; (go_simp; with_reducible rfl); simp only [Act.put, List.setIfInBounds_toArray, List.set_cons_zero, List.set_cons_succ]) | (refine C_po rfl rfl ?_; simp only [Act.put, List.setIfInBounds_toArray, List.set_cons_zero, List.set_cons_succ]) | (refine C_so rfl rfl hS0 ?_; simp only [Act.put, List.setIfInBounds_toArray, List.set_cons_zero, List.set_cons_succ]) | (refine C_to rfl rfl ?_; simp only [Act.put, List.setIfInBounds_toArray, List.set_cons_zero, List.set_cons_succ])))
    (refine C_e rfl rfl (fun K hK => ?_); go_simp)
    refine HRT.out.mono ?_
    rintro e w17 ⟨rfl, h17⟩
    have hS1 : (w17.cell? ⟨x2, 0, none⟩ = some (.slice la2 nl2 lc2) ∧ w17.cell? ⟨x2, 1, none⟩ = some (.slice ta2 nt2 tc2) ∧ w17.cell? ⟨x2, 2, none⟩ = some (.slice sa2 ns2 sc2)) ∧ w17.cell? ⟨x1, 0, none⟩ = some (.slice la nl lc) ∧ w17.cell? ⟨x1, 1, none⟩ = some (.slice ta nt tc) ∧ w17.cell? ⟨x1, 2, none⟩ = some (.slice sa ns' sc) := ⟨⟨h17.p2.cell 0, h17.p2.cell 1, h17.p2.cell 2⟩, h17.p3.cell 0, h17.p3.cell 1, h17.p3.cell 2⟩
    have hc := acheck_spec HW.out rt lo hi ra2 rn2 rc2 PL (.agg #[.slice la nl lc, .slice ta nt tc, .slice sa ns' sc]) PR h17.p1 HPP.out.1 HPP.out.2.1 HPP.out.2.2.2.1 HPP.out.2.2.2.2.1
    rw [HPP.out.2.2.2.2.2.1] at hc
    have HC2 := Lib.hid hc
    clear HRT h17 hS0 hc
    (refine hK _ _ (fun _ => hS1) ?_; clear hK K; (try simp only [Act.put, List.setIfInBounds_toArray, List.set_cons_zero, List.set_cons_succ]))
    clear hS1
    (repeat (first | (refine C_p (v := ?_) rfl rfl (fun w' => ?_) ?_; rotate_left; (go_simp; with_reducible rfl); simp only [Act.put, List.setIfInBounds_toArray, List.set_cons_zero, List.set_cons_succ]) | (refine C_s (v := ?_) rfl rfl hS0 (fun w' hS => ?_) ?_; rotate_left; ((try dsimp only at hS); go_simp; with_reducible rfl); simp only [Act.put, List.setIfInBounds_toArray, List.set_cons_zero, List.set_cons_succ]) | (refine C_t (v := ?_) rfl rfl ?_ ?_; rotate_left; (go_simp; with_reducible rfl); simp only [Act.put, List.setIfInBounds_toArray, List.set_cons_zero, List.set_cons_succ]) | (refine C_po rfl rfl ?_; simp only [Act.put, List.setIfInBounds_toArray, List.set_cons_zero, List.set_cons_succ]) | (refine C_so rfl rfl hS0 ?_; simp only [Act.put, List.setIfInBounds_toArray, List.set_cons_zero, List.set_cons_succ]) | (refine C_to rfl rfl ?_; simp only [Act.put, List.setIfInBounds_toArray, List.set_cons_zero, List.set_cons_succ])))
    (refine C_e rfl rfl (fun K hK => ?_); go_simp)
    refine HC2.out.mono ?_
    rintro e w18 ⟨rfl, h18⟩
    have H18 : Hid (Sat w w18 (sep (isAM p1 M) (sep (isAM p2 (lkP L)) (sep (kn J4) emp)))) := Lib.hid (by
      have := (show Sat w w18 (sep (blk x2 (.cells #[.slice la2 nl2 lc2, .slice ta2 nt2 tc2, .slice sa2 ns2 sc2] 40 (0, 0))) (sep (blk x1 (.cells #[.slice la nl lc, .slice ta nt tc, .slice sa ns' sc] 40 (0, 0))) (sep (kn J4) (sep (isAM p1 M) (sep (isAM p2 (lkP L)) emp))))) by simpa only [sep_comm, sep_lcomm, sep_assoc] using h18).drop.drop
      simpa only [sep_comm, sep_lcomm, sep_assoc] using this)
    clear HC2 h18 HPP HQ2
    (refine hK _ _ (fun h => by cases h) ?_; clear hK K; (try simp only [Act.put, List.setIfInBounds_toArray, List.set_cons_zero, List.set_cons_succ]))
    (repeat (first | (refine C_p (v := ?_) rfl rfl (fun w' => ?_) ?_; rotate_left; (go_simp; with_reducible rfl); simp only [Act.put, List.setIfInBounds_toArray, List.set_cons_zero, List.set_cons_succ]) | (refine C_s (v := ?_) rfl rfl hS0 (fun w' hS => ?_) ?_; rotate_left; ((try dsimp only at hS); go_simp; with_reducible rfl); simp only [Act.put, List.setIfInBounds_toArray, List.set_cons_zero, List.set_cons_succ]) | (refine C_t (v := ?_) rfl rfl ?_ ?_; rotate_left; (go_simp; with_reducible rfl); simp only [Act.put, List.setIfInBounds_toArray, List.set_cons_zero, List.set_cons_succ]) | (refine C_po rfl rfl ?_; simp only [Act.put, List.setIfInBounds_toArray, List.set_cons_zero, List.set_cons_succ]) | (refine C_so rfl rfl hS0 ?_; simp only [Act.put, List.setIfInBounds_toArray, List.set_cons_zero, List.set_cons_succ]) | (refine C_to rfl rfl ?_; simp only [Act.put, List.setIfInBounds_toArray, List.set_cons_zero, List.set_cons_succ])))
    refine C_nil ?_
    go_wp2_with fail
    go_loopw [21] (fun iv wr => ∃ (n : Nat) (J : Mem), n ≤ 4096 ∧ iv = .int .i64 (n : Nat) ∧ Hid (Mem.le J4 J) ∧ Hid (Sat w wr (sep (isAM p1 M) (sep (isAM p2 (lkP L)) (sep (kn J) emp))))) (fun iv _ => 4096 - (intOf iv).toNat)
    case atStart => exact ⟨0, J4, by omega, rfl, Lib.hid (Mem.le_refl _), H18⟩
    case round =>
      clear H18
      obtain ⟨n, J5, hn, rfl, HJ5, HS⟩ := hrel
      by_cases hn4 : n < 4096
      · have g1 : (n : Int) < 4096 := by omega
        have HG1 := Lib.hid (aget_spec p1 M (n : Int) HS.out)
        have hsame : (n : Int) < lo ∨ hi < (n : Int) → M (n : Int) = lkP L (n : Int) := fun h => HAp.out.1 _ h
        obtain ⟨o1, ho1⟩ : ∃ z, z = M (n : Int) := ⟨_, rfl⟩
        rw [← ho1] at HG1 hsame
        obtain ⟨o2, ho2⟩ : ∃ z, z = lkP L (n : Int) := ⟨_, rfl⟩
        rw [← ho2] at hsame
        have HO2 := Lib.hid ho2
        have HSM := Lib.hid hsame
        clear HS hsame ho1 ho2 hn4
        go_wp2_with fail
        refine HG1.out.mono ?_
        rintro e w19 ⟨va, vc, rfl, h19⟩
        obtain ⟨J6, hJ6, hv1, h20⟩ := osl_learnQ (show Sat w w19 (sep (osl 5 1 va (o1.getD []).length vc ((o1.getD []).map bv)) (sep (kn J5) (sep (isAM p1 M) (sep (isAM p2 (lkP L)) emp)))) by simpa only [sep_comm, sep_lcomm, sep_assoc] using h19) rfl
        have hg2 := aget_spec p2 (lkP L) (n : Int) (show Sat w w19 (sep (isAM p2 (lkP L)) (sep (kn J6) (sep (isAM p1 M) emp))) by simpa only [sep_comm, sep_lcomm, sep_assoc] using h20)
        rw [← HO2.out] at hg2
        have HG2 := Lib.hid hg2
        have HV1 := Lib.hid hv1
        have HJ6 := Lib.hid (Mem.le_trans HJ5.out hJ6)
        obtain ⟨s1, hs1⟩ : ∃ z, z = o1.isSome := ⟨_, rfl⟩
        obtain ⟨n1, hn1⟩ : ∃ z, z = (o1.getD []).length := ⟨_, rfl⟩
        rw [← hn1] at HV1 ⊢
        rw [← hs1]
        have HS1 := Lib.hid hs1
        clear HG1 h19 h20 hg2 hv1 hJ6 hn1 hs1
        go_wp2_with fail
        refine HG2.out.mono ?_
        rintro e w21 ⟨ua, uc, rfl, h21⟩
        obtain ⟨J7, hJ7, hv2, h22⟩ := osl_learnQ (show Sat w w21 (sep (osl 5 1 ua (o2.getD []).length uc ((o2.getD []).map bv)) (sep (kn J6) (sep (isAM p1 M) (sep (isAM p2 (lkP L)) emp)))) by simpa only [sep_comm, sep_lcomm, sep_assoc] using h21) rfl
        obtain ⟨s2, hs2⟩ : ∃ z, z = o2.isSome := ⟨_, rfl⟩
        obtain ⟨n2, hn2⟩ : ∃ z, z = (o2.getD []).length := ⟨_, rfl⟩
        have HJ7 := Lib.hid (Mem.le_trans HJ6.out hJ7)
        rw [← hn2] at hv2 ⊢
        rw [← hs2]
        by_cases hin : (n : Int) < lo ∨ hi < (n : Int)
        · have ho := HSM.out hin
          subst ho
          have e12 : s2 = s1 := by rw [HS1.out, hs2]
          subst e12
          have HSB := Lib.hid (same_knQ (.slice va n1 vc) (.slice ua n2 uc) (o1.getD []) h22 (rBytes.mono hJ7 HV1.out) hv2)
          clear HG2 h21 h22 hv2 hJ7 HS1 hs2 hn2
          have gss : (s2 != s2) = false := by simp
          by_cases hlo : (n : Int) < lo
          · clear hin
            go_wp2_with fail
            refine HSB.out.mono ?_
            rintro e w23 ⟨rfl, h23⟩
            have H23 := Lib.hid h23
            clear HSB h23
            go_wp2_with fail
            go_roundw
            case rel => exact ⟨n + 1, J7, by omega, by go_num, HJ7, Lib.hid (by have := H23.out; simpa only [sep_comm, sep_lcomm, sep_assoc] using this)⟩
            case measure => simp only [intOf]; omega
          · have hgt : (n : Int) > hi := by omega
            clear hin
            go_wp2_with fail
            refine HSB.out.mono ?_
            rintro e w23 ⟨rfl, h23⟩
            have H23 := Lib.hid h23
            clear HSB h23
            go_wp2_with fail
            go_roundw
            case rel => exact ⟨n + 1, J7, by omega, by go_num, HJ7, Lib.hid (by have := H23.out; simpa only [sep_comm, sep_lcomm, sep_assoc] using this)⟩
            case measure => simp only [intOf]; omega
        · have g2 : ¬ (n : Int) < lo := by omega
          have g3 : ¬ (n : Int) > hi := by omega
          have H22 := Lib.hid h22
          clear HG2 h21 h22 hv2 hJ7 HS1 hs2 hn2 hin
          go_wp2_with fail
          go_roundw
          case rel => exact ⟨n + 1, J7, by omega, by go_num, HJ7, Lib.hid (by have := H22.out; simpa only [sep_comm, sep_lcomm, sep_assoc] using this)⟩
          case measure => simp only [intOf]; omega
      · have en : n = 4096 := by omega
        subst en
        have g1 : ¬ ((4096 : Nat) : Int) < 4096 := by omega
        have HLV := Lib.hid (lives33_spec HW.out (show Sat w wr (sep (kn J5) (sep (isAM p1 M) (sep (isAM p2 (lkP L)) emp))) by have := HS.out; simpa only [sep_comm, sep_lcomm, sep_assoc] using this))
        clear HS hn4
        go_wp2_with fail
        refine HLV.out.mono ?_
        rintro e w19 ⟨rfl, h19⟩
        have HB := Lib.hid h19.below
        clear HLV h19
        go_wp2_with fail
        go_ret
        exact ⟨rfl, HB.out⟩
end Go.Proofs.YtcmjbjlliehdiaaDoor
