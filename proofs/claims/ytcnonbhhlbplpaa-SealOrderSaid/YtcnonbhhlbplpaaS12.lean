/- SealOrder, the walk. -/
import Derived.Test.YtcnonbhhlbplpaaS11
import Derived.Test.YtcnonbhhlbplpaaS9
namespace Go.Proofs.Ytcnonbhhlbplpaa
open Go.RowKit PA
theorem osl_learn {W w : World} {A : Assn} {I : Mem} {a : Option Addr} {l c : Nat} {gb : List UInt8} (h : Sat W w (sep (osl 5 1 a l c (gb.map bv)) (sep (kn I) A))) (hl : l = gb.length) : ∃ J, Mem.le I J ∧ rBytes.rel J [.slice a l c] gb ∧ Sat W w (sep (kn J) A) := by
  subst hl
  exact h.bytes_of_osl.2.learn
theorem sord_open {W w : World} {A : Assn} (p : Nat) (E : Nat → Ent) (n : Nat) (O O' : Nat → Bool) (t : Nat) (ht : t < n) (hO : eset (ordM E n (fun _ => true) O) (3 * (t : Int)) { E t with o := true } = ordM E n (fun _ => true) O')
    (gb : List UInt8) (s l : Nat) (hb : (E t).b = gb) (hs : (E t).s = s) (hl : l = gb.length) (h : Sat W w (sep (isBox p (ordM E n (fun _ => true) O) n) A)) :
    Calls Try.prog 16 #[.pointer (some ⟨p, 0, none⟩), .int .i64 (3 * (t : Int))] w fun e w' => ∃ a c, e = .returned (.tuple #[.slice a l c, .int .u64 (s : Nat), .int .i64 0]) ∧
      Sat W w' (sep (osl 5 1 a l c (gb.map bv)) (sep (isBox p (ordM E n (fun _ => true) O') n) A)) := by
  subst hl
  subst hb
  subst hs
  refine (sopen_ok p (ordM E n (fun _ => true) O) n (3 * (t : Int)) { E t with o := O t } h (ordM_at E n _ O t ht rfl)).mono ?_
  rintro e w' ⟨a, c, rfl, h1⟩
  refine ⟨a, c, rfl, ?_⟩
  rw [← hO]
  exact h1
set_option maxRecDepth 100000 in
set_option maxHeartbeats 16000000 in
theorem sealOrder_walk (a0 : Option Addr) (len0 cap0 : Nat) (z0 : List Int) (a1 : Int) (w : World)
    (w0 : IsArg w a0 len0 cap0 z0) (w1 : (Lit.int .u64 a1).wf = true) :
    Calls Try.prog 4 #[.slice a0 len0 cap0, .int .u64 a1] w fun e w' => e = .returned (.bool true) ∧ Below w.heap.size w w' := by
  obtain ⟨L, hL, hrel, hL64⟩ := argI w0
  obtain ⟨s, rfl, hs⟩ := u64_nat w1
  obtain ⟨a', c', e1, hsw, hcells⟩ := ints_rel.1 hrel
  simp only [Value.slice.injEq] at e1
  obtain ⟨rfl, -, rfl⟩ := e1
  have hl64 : (len0 : Int) ≤ 9223372036854775807 := by rw [hL]; have := hsw.1; have := hsw.2.1; unfold maxLen at this; omega
  obtain ⟨n, hn⟩ : ∃ n, n = min len0 20 := ⟨_, rfl⟩
  have hn20 : n ≤ 20 := by omega
  have hnl : n ≤ L.length := by omega
  have hmn1 : (if (20 : Int) < (len0 : Int) then (20 : Int) else (len0 : Int)) = (n : Int) := by split <;> omega
  have hmn3 : min (len0 : Int) 20 = (n : Int) := by omega
  have hmn2 : (if 20 < len0 then (20 : Int) else (len0 : Int)) = (n : Int) := by split <;> omega
  have HC := Lib.hid (fun i (hi : i < n) w' (he : Ext (wm w) w') => by
    obtain ⟨b, o, e, hc⟩ := cells_ext hcells (fun e => by have := congrArg List.length e; simp at this; rw [this] at hnl; simp at hnl; omega)
    exact (⟨b, o, e, by have := hc w' he i (iv (L.getD i 0)) (by rw [List.getElem?_map, List.getD_eq_getElem?_getD, List.getElem?_eq_getElem (by omega)]; rfl); exact this⟩ : ∃ b o, a0 = some ⟨b, o, none⟩ ∧ w'.cell? ⟨b, o + i, none⟩ = some (iv (L.getD i 0))))
  have H64 := Lib.hid (fun i (hi : i < n) => (hL64 (L.getD i 0) (by rw [List.getD_eq_getElem?_getD, List.getElem?_eq_getElem (by omega)]; exact List.getElem_mem _) : I64' (L.getD i 0)))
  obtain ⟨E, hE⟩ : ∃ E, E = ordE L s := ⟨_, rfl⟩
  have HE := Lib.hid (fun j => (by rw [hE]; exact ⟨rfl, rfl, rfl⟩ : (E j).b = genB (L.getD j 0) ∧ (E j).s = salN s j ∧ (E j).o = false))
  have HN20 := Lib.hid hn20
  have HNEW := Lib.hid (snew_spec (Sat.startKn w))
  have hnI : (n : Int) ≤ 20 := by omega
  clear w0 w1 hrel hL64 hcells hsw hL hE hn hnl hn20
  go_enter Try.func4, Try.ntmps4
  go_wp2_with fail
  refine HNEW.out.mono ?_
  rintro e w1 ⟨px, rfl, h1⟩
  have HNEW2 := Lib.hid (snew_spec h1)
  clear HNEW h1
  go_wp2_with fail
  refine HNEW2.out.mono ?_
  rintro e w2 ⟨py, rfl, h2⟩
  have h3 : Sat w w2 (sep (isBox px (ordM E n (xP 0) nO) 0) (sep (isBox py (ordM E n (yP n 0) nO) 0) (sep (kn (wm w)) emp))) := by
    rw [← (xy_none E n).1, ← (xy_none E n).2]
    simpa only [sep_comm, sep_lcomm, sep_assoc] using h2
  clear HNEW2 h2
  go_wp2_with fail
  go_loopw [8] (fun kv wr => ∃ i : Nat, i ≤ n ∧ kv = .int .i64 i ∧ Sat w wr (sep (isBox px (ordM E n (xP i) nO) i) (sep (isBox py (ordM E n (yP n i) nO) i) (sep (kn (wm w)) emp)))) (fun kv _ => n - (intOf kv).toNat)
  case atStart => exact ⟨0, Nat.zero_le _, rfl, h3⟩
  case round =>
    clear h3
    obtain ⟨i, hi, rfl, hS⟩ := hrel
    by_cases hin : i < n
    · obtain ⟨b, o, rfl, hci⟩ := HC.out i hin wr hS.p2.ext
      unfold iv at hci
      obtain ⟨j, hj⟩ : ∃ j, j + 1 + i = n := ⟨n - 1 - i, by omega⟩
      have hjn : j < n := by omega
      have hj1 : (n : Int) - 1 = ((n - 1 : Nat) : Int) := by omega
      have hj2 : ((n - 1 : Nat) : Int) - (i : Int) = (j : Int) := by omega
      obtain ⟨n1, hn1⟩ : ∃ n1, n1 = n - 1 := ⟨_, rfl⟩
      rw [← hn1] at hj1 hj2
      have hb1 := rsbytes_spec (L.getD i 0) (H64.out i hin).1 (H64.out i hin).2 hS
      have h64 := H64.out i hin
      have hE1 := HE.out i
      obtain ⟨gb, hgb⟩ : ∃ gb, gb = genB (L.getD i 0) := ⟨_, rfl⟩
      obtain ⟨li, hli⟩ : ∃ li, li = L.getD i 0 := ⟨_, rfl⟩
      have hgl : gb.length ≤ 8 := by rw [hgb]; exact genB_len _
      rw [← hgb] at hb1 hE1
      rw [← hli] at hb1 hci
      obtain ⟨l, hl⟩ : ∃ l, l = gb.length := ⟨_, rfl⟩
      rw [← hl] at hb1
      have hsw : IntKind.u64.wrap ((s : Int) + (i : Int)) = ((salN s i : Nat) : Int) := by rw [IntKind.wrap_u64]; unfold salN; omega
      have hswj : IntKind.u64.wrap ((s : Int) + (j : Int)) = ((salN s j : Nat) : Int) := by rw [IntKind.wrap_u64]; unfold salN; omega
      have hwi : IntKind.u64.wrap (i : Int) = (i : Int) := by rw [IntKind.wrap_u64]; omega
      have hwj : IntKind.u64.wrap (j : Int) = (j : Int) := by rw [IntKind.wrap_u64]; omega
      have hiI : (i : Int) < (n : Int) := by omega
      have hjI : (j : Int) < (n : Int) := by omega
      have hn1I : (n1 : Int) < 20 := by omega
      have HB1 := Lib.hid hb1
      have HE1 := Lib.hid hE1
      have HGL := Lib.hid (And.intro hgl hl)
      have HJ := Lib.hid (And.intro hj hn1)
      have HH := Lib.hid hin
      clear hS hb1 hE1 hgb hli hgl hl hj hn1 h64 hin hj1
      go_wp2_with fail
      refine HB1.out.mono ?_
      rintro e w3 ⟨ab, cb, rfl, h4⟩
      obtain ⟨J, hJ, hb, h5⟩ := osl_learn (show Sat w w3 (sep (osl 5 1 ab l cb (gb.map bv)) (sep (kn (wm w)) (sep (isBox px (ordM E n (xP i) nO) i) (sep (isBox py (ordM E n (yP n i) nO) i) emp)))) by
        simpa only [sep_comm, sep_lcomm, sep_assoc] using h4) HGL.out.2
      have hp0 := putE_ord E n i (xP i) nO i gb (by have := HN20.out; have := HH.out; omega) HGL.out.1 (by have := HN20.out; omega) (by unfold xP; simp)
      have hp := sput_any px (ordM E n (xP i) nO) i (3 * (i : Int)) _ gb (salN s i) h5.p1 hb
      rw [hp0, putM, putN, if_pos hp0, if_pos hp0, ← HE1.out.1, ← HE1.out.2.1, x_put E n i HH.out] at hp
      rw [HE1.out.1, HE1.out.2.1] at hp
      obtain ⟨pc, hpc⟩ : ∃ pc, pc = putC (ordM E n (xP i) nO) i (3 * (i : Int)) gb (salN s i) := ⟨_, rfl⟩
      rw [← hpc] at hp
      have HP := Lib.hid hp
      have HJJ := Lib.hid hJ
      clear HB1 h4 h5 hb hp0 hp hpc hJ
      go_wp2_with fail
      refine HP.out.mono ?_
      rintro e w4 ⟨rfl, h6⟩
      clear HP hci HE1 HGL hwi hsw
      obtain ⟨b', o', e', hcj⟩ := HC.out j hjn w4 (fun b o hb => h6.p1.ext b o (HJJ.out b o hb))
      cases e'
      unfold iv at hcj
      have hb2 := rsbytes_spec (L.getD j 0) (H64.out j hjn).1 (H64.out j hjn).2 h6
      have hE2 := HE.out j
      obtain ⟨gc, hgc⟩ : ∃ gb, gb = genB (L.getD j 0) := ⟨_, rfl⟩
      obtain ⟨lj, hlj⟩ : ∃ li, li = L.getD j 0 := ⟨_, rfl⟩
      have hgl2 : gc.length ≤ 8 := by rw [hgc]; exact genB_len _
      rw [← hgc] at hb2 hE2
      rw [← hlj] at hb2 hcj
      obtain ⟨l2, hl2⟩ : ∃ l, l = gc.length := ⟨_, rfl⟩
      rw [← hl2] at hb2
      have HB2 := Lib.hid hb2
      have HE2 := Lib.hid hE2
      have HGL2 := Lib.hid (And.intro hgl2 hl2)
      have hj1 : (n : Int) - 1 = (n1 : Int) := by have := HJ.out; omega
      clear h6 hb2 hE2 hgc hlj hgl2 hl2
      go_wp2_with fail
      refine HB2.out.mono ?_
      rintro e w5 ⟨ac, cc, rfl, h7⟩
      obtain ⟨J2, hJ2, hb3, h8⟩ := osl_learn (show Sat w w5 (sep (osl 5 1 ac l2 cc (gc.map bv)) (sep (kn J) (sep (isBox px (ordM E n (xP (i + 1)) nO) (i + 1)) (sep (isBox py (ordM E n (yP n i) nO) i) emp)))) by
        simpa only [sep_comm, sep_lcomm, sep_assoc] using h7) HGL2.out.2
      have hp1 := putE_ord E n i (yP n i) nO j gc (by have := HN20.out; omega) HGL2.out.1 (by have := HN20.out; omega) (by unfold yP; have := HJ.out; simp; omega)
      have hp := sput_any py (ordM E n (yP n i) nO) i (3 * (j : Int)) (.slice ac l2 cc) gc (salN s j) (show Sat w w5 (sep (isBox py (ordM E n (yP n i) nO) i) (sep (kn J2) (sep (isBox px (ordM E n (xP (i + 1)) nO) (i + 1)) emp))) by
        simpa only [sep_comm, sep_lcomm, sep_assoc] using h8) hb3
      rw [hp1, putM, putN, if_pos hp1, if_pos hp1, ← HE2.out.1, ← HE2.out.2.1, y_put E n i j HJ.out.1] at hp
      rw [HE2.out.1, HE2.out.2.1] at hp
      obtain ⟨pc2, hpc2⟩ : ∃ pc, pc = putC (ordM E n (yP n i) nO) i (3 * (j : Int)) gc (salN s j) := ⟨_, rfl⟩
      rw [← hpc2] at hp
      have HP2 := Lib.hid hp
      have HJJ2 := Lib.hid (Mem.le_trans HJJ.out hJ2)
      clear HB2 h7 h8 hb3 hp1 hp hpc2 hJ2
      go_wp2_with fail
      refine HP2.out.mono ?_
      rintro e w6 ⟨rfl, h9⟩
      have H9 := Lib.hid (show Sat w w6 (sep (isBox px (ordM E n (xP (i + 1)) nO) (i + 1)) (sep (isBox py (ordM E n (yP n (i + 1)) nO) (i + 1)) (sep (kn (wm w)) emp))) by
        have := (show Sat w w6 (sep (kn J2) (sep (isBox px (ordM E n (xP (i + 1)) nO) (i + 1)) (sep (isBox py (ordM E n (yP n (i + 1)) nO) (i + 1)) emp))) by simpa only [sep_comm, sep_lcomm, sep_assoc] using h9).kn_mono HJJ2.out
        simpa only [sep_comm, sep_lcomm, sep_assoc] using this)
      clear HP2 h9
      go_wp2_with fail
      go_roundw
      case rel => exact ⟨i + 1, by omega, by go_num, H9.out⟩
      case measure => have := HH.out; simp [intOf]; omega
    · obtain rfl : n = i := by omega
      rw [x_full, y_full] at hS
      have HS := Lib.hid hS
      have hiI : ¬ (n : Int) < n := by omega
      clear hS hin
      go_wp2_with fail
      go_loopw [9] (fun kv wr => ∃ t : Nat, t % 2 = 0 ∧ t ≤ n + 1 ∧ kv = .int .i64 t ∧ Sat w wr (sep (isBox px (ordM E n (fun _ => true) (xO t)) n) (sep (isBox py (ordM E n (fun _ => true) (yO n)) n) (sep (kn (wm w)) emp)))) (fun kv _ => n + 1 - (intOf kv).toNat)
      case atStart => exact ⟨0, rfl, by omega, rfl, HS.out⟩
      case round =>
        clear HS
        obtain ⟨t, ht2, ht, rfl, hS⟩ := hrel
        by_cases htn : t < n
        · have hE1 := HE.out t
          obtain ⟨gb, hgb⟩ : ∃ gb, gb = genB (L.getD t 0) := ⟨_, rfl⟩
          obtain ⟨lt, hlt⟩ : ∃ li, li = L.getD t 0 := ⟨_, rfl⟩
          rw [← hgb] at hE1
          obtain ⟨l, hl⟩ : ∃ l, l = gb.length := ⟨_, rfl⟩
          have hop := sord_open px E n (xO t) (xO (t + 2)) t htn (x_open E n t htn ht2) gb (salN s t) l hE1.1 hE1.2.1 hl hS
          have hsw : IntKind.u64.wrap ((s : Int) + (t : Int)) = ((salN s t : Nat) : Int) := by rw [IntKind.wrap_u64]; unfold salN; omega
          have hwi : IntKind.u64.wrap (t : Int) = (t : Int) := by rw [IntKind.wrap_u64]; omega
          have htI : (t : Int) < (n : Int) := by omega
          obtain ⟨sn, hsn⟩ : ∃ sn, sn = salN s t := ⟨_, rfl⟩
          rw [← hsn] at hop hsw
          have HOP := Lib.hid hop
          have HE1 := Lib.hid hE1
          have HSN := Lib.hid hsn
          have HGB := Lib.hid (And.intro hgb (And.intro hlt hl))
          have HT := Lib.hid (And.intro htn ht2)
          clear hS hop hE1 hgb hlt hl htn hsn
          go_wp2_with fail
          refine HOP.out.mono ?_
          rintro e w3 ⟨a3, c3, rfl, h3⟩
          have hop2 := sord_open px E n (xO (t + 2)) (xO (t + 2)) t HT.out.1 (x_again E n t HT.out.1 HT.out.2) gb sn l HE1.out.1 (by rw [HSN.out]; exact HE1.out.2.1) HGB.out.2.2 h3.p1
          have HOP2 := Lib.hid hop2
          clear HOP h3 hop2
          go_wp2_with fail
          refine HOP2.out.mono ?_
          rintro e w4 ⟨a4, c4, rfl, h4⟩
          have hsame := sameBytes_spec (.slice a3 l c3) (.slice a4 l c4) gb gb (W := w) (w := w4) (A := sep (isBox px (ordM E n (fun _ => true) (xO (t + 2))) n) (sep (isBox py (ordM E n (fun _ => true) (yO n)) n) (sep (kn (wm w)) emp))) (by
            have hl := HGB.out.2.2
            have h5 : Sat w w4 (sep (osl 5 1 a4 gb.length c4 (gb.map bv)) (sep (osl 5 1 a3 gb.length c3 (gb.map bv)) (sep (isBox px (ordM E n (fun _ => true) (xO (t + 2))) n) (sep (isBox py (ordM E n (fun _ => true) (yO n)) n) (sep (kn (wm w)) emp))))) := by
              rw [← hl]
              simpa only [sep_comm, sep_lcomm, sep_assoc] using h4
            rw [hl]
            exact h5.bytes_of_osl.2.p1.bytes_of_osl.2)
          rw [decide_eq_true (rfl : gb = gb)] at hsame
          have HSM := Lib.hid hsame
          clear HOP2 h4 hsame
          go_wp2_with fail
          refine HSM.out.mono ?_
          rintro e w5 ⟨rfl, h5⟩
          clear HSM
          have h6 : Sat w w5 (sep (kn (wm w)) (sep (rBytes.is [.slice a3 l c3] gb) (sep (isBox px (ordM E n (fun _ => true) (xO (t + 2))) n) (sep (isBox py (ordM E n (fun _ => true) (yO n)) n) emp)))) := by
            have h7 : Sat w w5 (sep (rBytes.is [.slice a4 l c4] gb) (sep (rBytes.is [.slice a3 l c3] gb) (sep (isBox px (ordM E n (fun _ => true) (xO (t + 2))) n) (sep (isBox py (ordM E n (fun _ => true) (yO n)) n) (sep (kn (wm w)) emp))))) := by
              simpa only [sep_comm, sep_lcomm, sep_assoc] using h5
            have := h7.drop
            simpa only [sep_comm, sep_lcomm, sep_assoc] using this
          obtain ⟨b, o, rfl, hci⟩ := HC.out t HT.out.1 w5 h6.ext
          unfold iv at hci
          have hg := rsbytes_spec (L.getD t 0) (H64.out t HT.out.1).1 (H64.out t HT.out.1).2 h6
          rw [← HGB.out.1, ← HGB.out.2.2] at hg
          rw [← HGB.out.2.1] at hci hg
          have HG := Lib.hid hg
          clear h5 h6 hg
          go_wp2_with fail
          refine HG.out.mono ?_
          rintro e w6 ⟨a6, c6, rfl, h7⟩
          have hsame := sameBytes_spec (.slice a3 l c3) (.slice a6 l c6) gb gb (W := w) (w := w6) (A := sep (isBox px (ordM E n (fun _ => true) (xO (t + 2))) n) (sep (isBox py (ordM E n (fun _ => true) (yO n)) n) (sep (kn (wm w)) emp))) (by
            have hl := HGB.out.2.2
            have h5 : Sat w w6 (sep (osl 5 1 a6 gb.length c6 (gb.map bv)) (sep (rBytes.is [.slice a3 l c3] gb) (sep (isBox px (ordM E n (fun _ => true) (xO (t + 2))) n) (sep (isBox py (ordM E n (fun _ => true) (yO n)) n) (sep (kn (wm w)) emp))))) := by
              rw [← hl]
              simpa only [sep_comm, sep_lcomm, sep_assoc] using h7
            have h8 := h5.bytes_of_osl.2.p1
            rw [← hl] at h8
            exact h8)
          rw [decide_eq_true (rfl : gb = gb)] at hsame
          have HSM := Lib.hid hsame
          clear HG h7 hsame hci
          go_wp2_with fail
          refine HSM.out.mono ?_
          rintro e w7 ⟨rfl, h8⟩
          have H8 := Lib.hid h8.drop.drop
          clear HSM h8
          go_wp2_with fail
          go_roundw
          case rel => exact ⟨t + 2, by have := HT.out.2; omega, by have := HT.out.1; omega, by go_num, H8.out⟩
          case measure => have := HT.out.1; simp [intOf]; omega
        · have htI : ¬ (t : Int) < (n : Int) := by omega
          rw [xy_end E n t (by omega)] at hS
          have HS := Lib.hid hS
          clear hS htn
          go_wp2_with fail
          go_loopw [16] (fun kv wr => ∃ t : Nat, t ≤ n ∧ kv = .int .i64 ((t : Int) - 1) ∧ Sat w wr (sep (isBox px (ordM E n (fun _ => true) (yO 0)) n) (sep (isBox py (ordM E n (fun _ => true) (yO t)) n) (sep (kn (wm w)) emp)))) (fun kv _ => (intOf kv + 1).toNat)
          case atStart => exact ⟨n, Nat.le_refl _, rfl, HS.out⟩
          case round =>
            clear HS
            obtain ⟨t, ht, rfl, hS⟩ := hrel
            cases t with
            | succ t =>
              have e1 : ((t + 1 : Nat) : Int) - 1 = (t : Int) := by omega
              rw [e1]
              have htn : t < n := by omega
              have htI : (t : Int) < 20 := by have := HN20.out; omega
              rcases Nat.mod_two_eq_zero_or_one t with h0 | h0
              · have hr1 : (t : Int).tmod 2 = 0 := by rw [Int.tmod_eq_emod_of_nonneg (by omega)]; omega
                have hr2 : (t : Int) % 2 = 0 := by omega
                have hop := sord_open py E n (yO (t + 1)) (yO t) t htn (y_open E n t htn h0) (E t).b (E t).s (E t).b.length rfl rfl rfl hS.p1
                obtain ⟨gb, hgb⟩ : ∃ gb, gb = (E t).b := ⟨_, rfl⟩
                obtain ⟨sn, hsn⟩ : ∃ sn, sn = (E t).s := ⟨_, rfl⟩
                rw [← hgb, ← hsn] at hop
                have HOP := Lib.hid hop
                clear hS hop hgb hsn
                go_wp2_with fail
                refine HOP.out.mono ?_
                rintro e w3 ⟨a3, c3, rfl, h3⟩
                have H3 := Lib.hid (show Sat w w3 (sep (isBox px (ordM E n (fun _ => true) (yO 0)) n) (sep (isBox py (ordM E n (fun _ => true) (yO t)) n) (sep (kn (wm w)) emp))) by
                  have := h3.forget_osl
                  simpa only [sep_comm, sep_lcomm, sep_assoc] using this)
                clear HOP h3
                go_wp2_with fail
                go_roundw
                case rel => exact ⟨t, by omega, by go_num, H3.out⟩
                case measure => simp [intOf]
              · have hr1 : (t : Int).tmod 2 = 1 := by rw [Int.tmod_eq_emod_of_nonneg (by omega)]; omega
                have hr2 : (t : Int) % 2 = 1 := by omega
                rw [y_skip E n t h0] at hS
                have HS := Lib.hid hS
                clear hS
                go_wp2_with fail
                go_roundw
                case rel => exact ⟨t, by omega, by go_num, HS.out⟩
                case measure => simp [intOf]
            | zero =>
              have e1 : ((0 : Nat) : Int) - 1 = -1 := by omega
              rw [e1]
              have hc1 := scommitments_spec px (ordM E n (fun _ => true) (yO 0)) n hS
              have HC1 := Lib.hid hc1
              clear hS hc1
              go_wp2_with fail
              refine HC1.out.mono ?_
              rintro e w3 ⟨a3, c3, ks, rfl, hk, -, h3⟩
              obtain rfl := hk.uniq (ordM_keys E n (yO 0))
              obtain ⟨ks, hks⟩ : ∃ ks, ks = (List.range n).map fun j : Nat => 3 * (j : Int) := ⟨_, rfl⟩
              have hkl : ks.length = n := by rw [hks, List.length_map, List.length_range]
              rw [← hks] at hk h3 ⊢
              rw [hkl]
              have HKS := Lib.hid (And.intro hk hkl)
              have hc2 := scommitments_spec px (ordM E n (fun _ => true) (yO 0)) n h3.forget_osl
              have HC2 := Lib.hid hc2
              clear HC1 h3 hc2 hks hk hkl
              go_wp2_with fail
              refine HC2.out.mono ?_
              rintro e w4 ⟨a4, c4, ks4, rfl, hk4, -, h4⟩
              obtain rfl := (hk4.uniq HKS.out.1).symm
              have hc3 := scommitments_spec py (ordM E n (fun _ => true) (yO 0)) n h4.p2
              have HC3 := Lib.hid hc3
              clear HC2 h4 hc3 hk4
              go_wp2_with fail
              refine HC3.out.mono ?_
              rintro e w5 ⟨a5, c5, ks5, rfl, hk5, -, h5⟩
              obtain rfl := (hk5.uniq HKS.out.1).symm
              obtain ⟨cs, hcs⟩ : ∃ cs, cs = ks.map (comE (ordM E n (fun _ => true) (yO 0))) := ⟨_, rfl⟩
              rw [← hcs] at h5
              have hcl : cs.length = n := by rw [hcs, List.length_map]; exact HKS.out.2
              have h6 : Sat w w5 (sep (osl 22 1 a4 cs.length c4 (cs.map uv)) (sep (osl 22 1 a5 cs.length c5 (cs.map uv)) (sep (isBox px (ordM E n (fun _ => true) (yO 0)) n) (sep (isBox py (ordM E n (fun _ => true) (yO 0)) n) (sep (kn (wm w)) emp))))) := by
                rw [show cs.length = ks.length by rw [hcs, List.length_map]]
                simpa only [sep_comm, sep_lcomm, sep_assoc] using h5
              have hsm := same31_sat a4 a5 c4 c5 cs cs h6
              rw [decide_eq_true (rfl : cs = cs), hcl] at hsm
              have HSM := Lib.hid hsm
              clear HC3 h5 h6 hsm hk5 hcs hcl
              rw [HKS.out.2]
              go_wp2_with fail
              refine HSM.out.mono ?_
              rintro e w6 ⟨rfl, h7⟩
              have hs1 := ssealed_spec px (ordM E n (fun _ => true) (yO 0)) n h7
              have HS1 := Lib.hid hs1
              clear HSM h7 hs1
              go_wp2_with fail
              refine HS1.out.mono ?_
              rintro e w7 ⟨a7, c7, ks7, rfl, hk7, -, h8⟩
              obtain rfl := (hk7.uniq HKS.out.1).symm
              have hs2 := ssealed_spec py (ordM E n (fun _ => true) (yO 0)) n h8.p2
              have HS2 := Lib.hid hs2
              clear HS1 h8 hs2 hk7
              go_wp2_with fail
              refine HS2.out.mono ?_
              rintro e w8 ⟨a8, c8, ks8, rfl, hk8, -, h9⟩
              obtain rfl := (hk8.uniq HKS.out.1).symm
              obtain ⟨fs, hfs⟩ : ∃ fs, fs = ks.filter fun k => !opE (ordM E n (fun _ => true) (yO 0)) k := ⟨_, rfl⟩
              rw [← hfs] at h9 ⊢
              have hsm := sameInts_sat a7 a8 c7 c8 fs fs (W := w) (w := w8) (A := sep (isBox px (ordM E n (fun _ => true) (yO 0)) n) (sep (isBox py (ordM E n (fun _ => true) (yO 0)) n) (sep (kn (wm w)) emp))) (by
                simpa only [sep_comm, sep_lcomm, sep_assoc] using h9)
              rw [decide_eq_true (rfl : fs = fs)] at hsm
              have HSM := Lib.hid hsm
              clear HS2 h9 hsm hk8 hfs
              go_wp2_with fail
              refine HSM.out.mono ?_
              rintro e w9 ⟨rfl, h10⟩
              have hli := lives31_spec h10
              have HLI := Lib.hid hli
              clear HSM h10 hli
              go_wp2_with fail
              refine HLI.out.mono ?_
              rintro e w10 ⟨rfl, h11⟩
              go_wp2_with fail
              go_ret
              exact ⟨rfl, h11.below⟩
end Go.Proofs.Ytcnonbhhlbplpaa
