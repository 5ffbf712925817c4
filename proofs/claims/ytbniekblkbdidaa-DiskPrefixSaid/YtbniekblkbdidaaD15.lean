/- DiskPrefix, the walk. -/
import Derived.Test.YtbniekblkbdidaaD14
namespace Go.Proofs.Ytbniekblkbdidaa
open Go.RowKit PA
theorem oneD_append {room n : Nat} {bs b : List UInt8} {d : Nat} (hn : n < 64) (hf : bs.length + b.length ≤ room) : appendD (oneD room n bs d) (n : Int) b = (0, oneD room n (bs ++ b) d) := by
  have hu : (oneD room n bs d).used = bs.length := one_used hn _
  have ha : (oneD room n bs d).app (n : Int).toNat b = oneD room n (bs ++ b) d := by
    show ({ oneD room n bs d with fs := dset (dset noFiles n (bs, d)) n (((dset noFiles n (bs, d)) n).1 ++ b, ((dset noFiles n (bs, d)) n).2) } : DSt) = _
    rw [dset_dset]
    simp [oneD, dset]
  have hs : ∀ x y, (oneD room n x y).step = (true, oneD room n x y) := fun _ _ => rfl
  rw [appendD, if_neg (by omega), hu, ha, hs]
  have hr : (oneD room n bs d).room = room := rfl
  have ho : (oneD room n bs d).off = false := rfl
  rw [ho, hr, if_neg (by simp), if_neg (by omega)]
  rfl
theorem newD_one (room n : Nat) : newD room = oneD room n [] 0 := by
  have hf : noFiles = dset noFiles n ([], 0) := by funext j; unfold dset; split <;> rfl
  show (⟨room, noFiles, false, none⟩ : DSt) = ⟨room, dset noFiles n ([], 0), false, none⟩
  rw [← hf]
theorem pop_le (k : Nat) : pop k ≤ 8 := by
  simp only [pop, pop8]; omega
theorem popSum_le (x y : List UInt8) (n : Nat) : popSum x y n ≤ 8 * n := by
  induction n with
  | zero => exact Nat.le_refl _
  | succ n ih =>
    have : popSum x y (n + 1) = popSum x y n + popAt x y n := rfl
    have h2 : popAt x y n ≤ 8 := pop_le _
    omega
set_option maxRecDepth 100000 in
set_option maxHeartbeats 8000000 in
theorem diskPrefix_walk (a0 : Option Addr) (len0 cap0 : Nat) (L : List (List UInt8)) (a1 a2 a3 : Int) (w : World) (hlen : len0 = L.length) (hr : (rBytes.slice 1).rel (wm w) [.slice a0 len0 cap0] L)
    (w1 : (Lit.int .i64 a1).wf = true) (w2 : (Lit.int .i64 a2).wf = true) (w3 : (Lit.int .i64 a3).wf = true) :
    Calls Try.prog 3 #[.slice a0 len0 cap0, .int .i64 a1, .int .i64 a2, .int .i64 a3] w fun e w' => e = .returned (.bool true) ∧ Below w.heap.size w w' := by
  have h0 := Sat.startKn w
  have hnew := dnew_ok 1000 h0 (by omega)
  rw [newD_one 1000 9] at hnew
  have HN := Lib.hid hnew
  have HA1 := Lib.hid (i64_of_wf w1)
  have HA2 := Lib.hid (i64_of_wf w2)
  have HA3 := Lib.hid (i64_of_wf w3)
  have HL := Lib.hid (And.intro hlen hr)
  clear hnew h0 w1 w2 w3 hlen hr
  go_enter Try.func3, Try.ntmps3
  go_wp2_with fail
  refine HN.out.mono ?_
  rintro e w1 ⟨p, rfl, h1⟩
  clear HN
  go_wp2_with fail
  refine (around_spec a1 6 w1 HA1.out.1 HA1.out.2 (by omega) (by omega)).mono ?_
  rintro e w' ⟨rfl, rfl⟩
  obtain ⟨M, hM⟩ : ∃ M : Int, aroundI a1 6 = M := ⟨_, rfl⟩
  rw [hM]
  clear hM
  have h2 := h1.osl_nil 5 1
  clear h1
  go_upto_block 0 with (fail)
  go_cut [11, 12] (fun av fv wx => ∃ (fm nl : Nat) (all : List UInt8) (a : Option Addr) (c : Nat) (vs : List Value), av = .slice a nl c ∧ fv = .int .i64 (fm : Nat) ∧ Hid (nl = all.length ∧ vs = all.map bv) ∧ nl ≤ 120 ∧ fm ≤ nl ∧ Sat w wx (sep (osl 5 1 a nl c vs) (sep (isDisk p (oneD 1000 9 all fm)) (sep (kn (wm w)) emp))))
  case first =>
    go_wp2_with fail
    go_loopw [11, 12, 14] (fun av fv iv' wr => ∃ (i fm nl : Nat) (all : List UInt8) (a : Option Addr) (c : Nat) (vs : List Value), i ≤ 6 ∧ av = .slice a nl c ∧ fv = .int .i64 (fm : Nat) ∧ iv' = .int .i64 (i : Nat) ∧ Hid (nl = all.length ∧ vs = all.map bv) ∧ nl ≤ 20 * i ∧ fm ≤ nl ∧ Sat w wr (sep (osl 5 1 a nl c vs) (sep (isDisk p (oneD 1000 9 all fm)) (sep (kn (wm w)) emp)))) (fun _ _ iv' _ => 6 - (intOf iv').toNat)
    case atStart => exact ⟨0, 0, 0, [], none, 0, [], by omega, rfl, rfl, rfl, Lib.hid ⟨rfl, rfl⟩, by omega, by omega, h2⟩
    case round =>
      clear h2
      obtain ⟨i, fm, nl, all, a, c, vs, hi, rfl, rfl, rfl, HV, hnl, hfm, hS⟩ := hrel
      by_cases hil : i < len0 ∧ i < 6
      · obtain ⟨hi1, hi2⟩ := hil
        have hiL : i < L.length := by rw [← HL.out.1]; exact hi1
        obtain ⟨pb, po, v, rfl, hcell, hvr⟩ := slice_el HL.out.2 i hiL
        obtain ⟨va, vc, rfl, -⟩ := slice_f hvr
        obtain ⟨x, hx⟩ : ∃ x, x = L[i] := ⟨_, rfl⟩
        rw [← hx] at hcell hvr
        have hc1 := hcell wr hS.p2.ext
        obtain ⟨xl, hxl⟩ : ∃ xl, xl = x.length := ⟨_, rfl⟩
        rw [← hxl] at hc1 hvr
        have hfew := few_spec _ x 20 hS.p2 hvr (by omega)
        have HF := Lib.hid hfew
        have hi1I : (i : Int) < (len0 : Int) := by omega
        have hi2I : (i : Int) < 6 := by omega
        clear hS hcell hvr hx hxl hfew hiL hi1
        go_wp2_with fail
        refine HF.out.mono ?_
        rintro e w3 ⟨fa, fc, rfl, h3⟩
        clear hc1
        obtain ⟨own, hown⟩ : ∃ own, own = x.take 20 := ⟨_, rfl⟩
        rw [← hown] at h3 ⊢
        have hol : own.length ≤ 20 := by rw [hown, List.length_take]; omega
        obtain ⟨I, hI, hro, h4⟩ := (show Sat w w3 (sep (rBytes.is [.slice fa own.length fc] own) (sep (kn (wm w)) _)) from h3.bytes_of_osl.2).learn
        have h5 : Sat w w3 (sep (isDisk p (oneD 1000 9 all fm)) (sep (kn I) (sep (osl 5 1 a nl c vs) emp))) := by
          simpa only [sep_comm, sep_lcomm, sep_assoc] using h4
        have ha := dappend_spec p (oneD 1000 9 all fm) 9 _ own h5 hro (by omega)
        have happ := oneD_append (room := 1000) (n := 9) (bs := all) (b := own) (d := fm) (by omega) (by have := HV.out.1; omega)
        rw [show appendD (oneD 1000 9 all fm) 9 own = (0, oneD 1000 9 (all ++ own) fm) from happ] at ha
        obtain ⟨ol, hol2⟩ : ∃ ol, ol = own.length := ⟨_, rfl⟩
        rw [← hol2] at ha hro hol ⊢
        have HA := Lib.hid ha
        have HRO := Lib.hid hro
        have HI := Lib.hid hI
        have HOL := Lib.hid hol2
        clear HF h3 h4 h5 ha happ hro hI hown hol2
        go_wp2_with fail
        refine HA.out.mono ?_
        rintro e w4 ⟨rfl, h6⟩
        clear HA
        have h7 : Sat w w4 (sep (osl 5 1 a nl c vs) (sep (kn I) (sep (isDisk p (oneD 1000 9 (all ++ own) fm)) emp))) := by
          simpa only [sep_comm, sep_lcomm, sep_assoc] using h6
        obtain ⟨hs1, hs2, hs3⟩ := rel_src' HRO.out
        have hsrc := hs3 w4 h7.p1.ext
        have hn0 : fa = none → ol = 0 := fun e => by have := hs2.2.2 e; have := hs2.1; omega
        have HSRC := Lib.hid hsrc
        have HN0 := Lib.hid hn0
        clear h6 hs1 hs2 hs3 hsrc hn0
        go_wp2_with (at_builtin; refine wpl_append_osl rfl (.tmp 52) (.tmp 53) 27 rfl 5 1 1 (.int .u8 0) Try.underlying27 infoU8d rfl rfl h7 rfl (own.map bv) (by rw [List.length_map, HOL.out]; simp) HN0.out HSRC.out (bv_one own) (by omega) (by unfold maxLen; omega) ?_)
        intro a5 c5 w5 h8
        have hvs2 : vs ++ own.map bv = (all ++ own).map bv := by rw [List.map_append, HV.out.2]
        have hal2 : nl + ol = (all ++ own).length := by rw [List.length_append, HV.out.1, HOL.out]
        rw [hvs2] at h8
        obtain ⟨nl2, hnl2⟩ : ∃ nl2, nl2 = nl + ol := ⟨_, rfl⟩
        rw [← hnl2] at h8 hal2 ⊢
        obtain ⟨all2, hall2⟩ : ∃ all2, all2 = all ++ own := ⟨_, rfl⟩
        rw [← hall2] at h8 hal2
        have h9 : Sat w w5 (sep (isDisk p (oneD 1000 9 all2 fm)) (sep (osl 5 1 a5 nl2 c5 (all2.map bv)) (sep (kn (wm w)) emp))) := by
          have := (h8.p1.kn_mono HI.out).p2
          simpa only [sep_comm, sep_lcomm, sep_assoc] using this
        have hnl20 : nl2 ≤ 20 * (i + 1) := by omega
        have hfm2 : fm ≤ nl2 := by omega
        have H9 := Lib.hid h9
        have HAL := Lib.hid hal2
        clear h7 h8 h9 hal2 hvs2 hall2 HSRC HN0 HV hnl hfm hnl2
        by_cases him : (i : Int) = M
        · have g1 : ((i : Int) == M) = true := by simp [him]
          have hs := dsync_spec p _ H9.out
          rw [oneD_sync, ← HAL.out] at hs
          have HS := Lib.hid hs
          clear hs him
          go_wp2_with fail
          refine HS.out.mono ?_
          rintro e w6 ⟨rfl, h10⟩
          have H10 := Lib.hid h10
          clear HS h10 H9
          go_wp2_with fail
          go_roundw
          case rel => exact ⟨i + 1, nl2, nl2, all2, a5, c5, _, by omega, rfl, rfl, rfl, Lib.hid ⟨HAL.out, rfl⟩, hnl20, by omega, H10.out.p1⟩
          case measure => simp only [intOf]; omega
        · have g1 : ((i : Int) == M) = false := by simp [him]
          clear him
          go_wp2_with fail
          go_roundw
          case rel => exact ⟨i + 1, fm, nl2, all2, a5, c5, _, by omega, rfl, rfl, rfl, Lib.hid ⟨HAL.out, rfl⟩, hnl20, hfm2, H9.out.p1⟩
          case measure => simp only [intOf]; omega
      · have HNI := Lib.hid hil
        clear hil
        rcases Nat.lt_or_ge i len0 with g1 | g1
        · have g2 : ¬ (i : Int) < 6 := by have := HNI.out; omega
          have g3 : (i : Int) < (len0 : Int) := by omega
          go_wp2_with fail
          go_meet
          exact ⟨fm, nl, all, a, c, vs, rfl, rfl, HV, by omega, hfm, hS⟩
        · have g3 : ¬ (i : Int) < (len0 : Int) := by omega
          go_wp2_with fail
          go_meet
          exact ⟨fm, nl, all, a, c, vs, rfl, rfl, HV, by omega, hfm, hS⟩
  case rest =>
    clear h2 HL
    obtain ⟨fm, nl, all, a, c, vs, rfl, rfl, HV, hnl, hfm, hS⟩ := hcut
    have hvsE := HV.out.2
    obtain ⟨I, hI, hra, h3⟩ := (show Sat w wc (sep (rBytes.is [.slice a nl c] all) (sep (kn (wm w)) (sep (isDisk p (oneD 1000 9 all fm)) emp))) from by
      rw [hvsE] at hS
      have := hS.bytes_of_osl.2
      simpa only [sep_comm, sep_lcomm, sep_assoc] using this).learn
    obtain ⟨J, hJ, hri, h4⟩ := litI h3 [a2] 3 (by simp [maxLen])
    have hcr := dcrash_spec p _ _ _ _ [a2] a3 h4.p1 hri (by intro x hx; simp at hx; subst hx; exact HA2.out) HA3.out
    rw [oneD_crash (by omega) (by rw [← HV.out.1]; exact hfm)] at hcr
    obtain ⟨X, hX⟩ : ∃ X, X = crash1 all fm [a2] a3 := ⟨_, rfl⟩
    rw [← hX] at hcr
    obtain ⟨m, hm⟩ : ∃ m, m = keptD (all, fm) [a2] 0 := ⟨_, rfl⟩
    have hml := keptD_le (all, fm) [a2] 0
    dsimp only at hml
    rw [← hm, ← HV.out.1] at hml
    have hXl : X.length = fm + m := by rw [hX, hm, crash1_len _ _ _ _ (by rw [← HV.out.1]; exact hfm)]
    have hmI : max 0 (min a2 ((nl : Int) - (fm : Int))) = (m : Int) := by
      have : m = (max 0 (min a2 ((all.length - fm : Nat) : Int))).toNat := hm
      rw [← HV.out.1] at this
      omega
    have htu := crash1_turned all fm [a2] a3 (by rw [← HV.out.1]; exact hfm)
    rw [← hX, ← hm] at htu
    have HCR := Lib.hid hcr
    have HX := Lib.hid (And.intro hXl (And.intro htu.1 htu.2))
    have HMI := Lib.hid hmI
    have HRA := Lib.hid hra
    have HJ := Lib.hid hJ
    clear h3 h4 hri hcr hX hm hXl htu hmI hra hJ hS hvsE hI
    go_wp2_with fail
    refine HCR.out.mono ?_
    rintro e w3 ⟨rfl, h5⟩
    have hrd := dread_spec p _ 9 h5
    rw [show readD (oneD 1000 9 X X.length) 9 = (X, 0) from oneD_read (by omega)] at hrd
    dsimp only at hrd
    obtain ⟨n, hn⟩ : ∃ n, n = fm + m := ⟨_, rfl⟩
    rw [HX.out.1, ← hn] at hrd
    have HRD := Lib.hid hrd
    have HN := Lib.hid hn
    have hsub : IntKind.i64.wrap ((nl : Int) - (fm : Int)) = (nl : Int) - (fm : Int) := IntWalk.i64_in _ (by omega)
    have hnI : (fm : Int) + (m : Int) = (n : Int) := by omega
    have hmI := HMI.out
    clear HCR h5 hrd hn
    go_wp2_with fail
    refine HRD.out.mono ?_
    rintro e w4 ⟨xa, xc, rfl, h6⟩
    obtain ⟨K, hK, hrx, h7⟩ := (show Sat w w4 (sep (rBytes.is [.slice xa n xc] X) (sep (kn J) (sep (isDisk p (oneD 1000 9 X n)) emp))) from by
      have := h6.bytes_of_osl.2
      simpa only [sep_comm, sep_lcomm, sep_assoc] using this).learn
    have h8 : Sat w w4 (sep (kn K) emp) := (show Sat w w4 (sep (isDisk p (oneD 1000 9 X n)) (sep (kn K) emp)) from h7.p1).drop
    have hrK := rBytes.mono (Mem.le_trans HJ.out hK) HRA.out
    have HRX := Lib.hid hrx
    have HRK := Lib.hid hrK
    have hn120 : n ≤ 120 := by have := HN.out; omega
    have hfmn : fm ≤ n := by have := HN.out; omega
    have hnnl : n ≤ nl := by have := HN.out; omega
    clear h6 h7 hrx hrK hK HRD
    go_upto_block 2 with (fail)
    go_cut [19] (fun tv wx => ∃ tn : Nat, tv = .int .i64 (tn : Nat) ∧ Hid (tn = popSum X all n) ∧ Sat w wx (sep (kn K) emp))
    case first =>
      go_wp2_with fail
      go_loopw [19, 20] (fun tv iv' wr => ∃ (i tn : Nat), i ≤ n ∧ iv' = .int .i64 (i : Nat) ∧ tv = .int .i64 (tn : Nat) ∧ Hid (tn = popSum X all i) ∧ Sat w wr (sep (kn K) emp)) (fun _ iv' _ => n - (intOf iv').toNat)
      case atStart => exact ⟨0, 0, by omega, rfl, rfl, Lib.hid rfl, h8⟩
      case round =>
        clear h8
        obtain ⟨i, tn, hi, rfl, rfl, HT, hS⟩ := hrel
        by_cases hin : i < n
        · have hiX : i < X.length := by have := HX.out.1; have := HN.out; omega
          have hiA : i < all.length := by have := HV.out.1; omega
          obtain ⟨xa', xc', e1, hxw, hxc⟩ := bytes_rel.1 HRX.out
          obtain ⟨aa', ac', e2, haw, hac⟩ := bytes_rel.1 HRK.out
          simp only [Value.slice.injEq] at e1 e2
          obtain ⟨rfl, -, rfl⟩ := e1
          obtain ⟨rfl, -, rfl⟩ := e2
          obtain ⟨xb, xo, rfl, hx1⟩ := bytes_cells hxc (fun e => by rw [e] at hiX; simp at hiX)
          obtain ⟨ab, ao, rfl, ha1⟩ := bytes_cells hac (fun e => by rw [e] at hiA; simp at hiA)
          have hS0 : True := trivial
          obtain ⟨xi, hxi⟩ : ∃ xi, xi = X[i] := ⟨_, rfl⟩
          obtain ⟨ai, hai⟩ : ∃ ai, ai = all[i] := ⟨_, rfl⟩
          have hc1 : wr.drew.cell? ⟨xb, xo + i, none⟩ = some (.int .u8 (xi.toNat : Nat)) := by rw [hxi]; exact hx1 _ hS.drew.ext i hiX
          have hc2 : wr.drew.cell? ⟨ab, ao + i, none⟩ = some (.int .u8 (ai.toNat : Nat)) := by rw [hai]; exact ha1 _ hS.drew.ext i hiA
          obtain ⟨y0, hy0⟩ : ∃ y0, y0 = xi.toNat ^^^ ai.toNat := ⟨_, rfl⟩
          have hxor := xor_u8 xi.toNat ai.toNat xi.toNat_lt ai.toNat_lt
          rw [← hy0] at hxor
          have hxv := hxor.1
          have hy256 := hxor.2
          have hpa : popAt X all i = pop y0 := by
            rw [popAt, hy0, hxi, hai, List.getD_eq_getElem?_getD, List.getD_eq_getElem?_getD, List.getElem?_eq_getElem hiX, List.getElem?_eq_getElem hiA]; rfl
          have HPA := Lib.hid hpa
          have hSd := hS.drew
          have HSd := Lib.hid hSd
          have hinI : (i : Int) < (n : Int) := by omega
          have hinl : (i : Int) < (nl : Int) := by omega
          clear hS hSd hiX hiA hxw hxc haw hac hx1 ha1 hxi hai hy0 hxor hpa
          go_wp2_with fail
          refine wp_region_canon rfl (fun _ => True) [(0, .p), (1, .p), (2, .p), (3, .t), (4, .p), (5, .p), (6, .p), (7, .t), (8, .p), (9, .p)] (by kernel_rfl) ?_
          (repeat (first | (refine C_p (v := ?_) rfl rfl (fun w' => ?_) ?_; rotate_left; (go_simp; with_reducible rfl); simp only [Act.put, List.setIfInBounds_toArray, List.set_cons_zero, List.set_cons_succ]) | (refine C_s (v := ?_) rfl rfl hS0 (fun w' hS => ?_) ?_; rotate_left; ((try dsimp only at hS); go_simp; with_reducible rfl); simp only [Act.put, List.setIfInBounds_toArray, List.set_cons_zero, List.set_cons_succ]) | (refine C_t (v := ?_) rfl rfl ?_ ?_; rotate_left; (go_simp; with_reducible rfl); simp only [Act.put, List.setIfInBounds_toArray, List.set_cons_zero, List.set_cons_succ]) | (refine C_po rfl rfl ?_; simp only [Act.put, List.setIfInBounds_toArray, List.set_cons_zero, List.set_cons_succ]) | (refine C_so rfl rfl hS0 ?_; simp only [Act.put, List.setIfInBounds_toArray, List.set_cons_zero, List.set_cons_succ]) | (refine C_to rfl rfl ?_; simp only [Act.put, List.setIfInBounds_toArray, List.set_cons_zero, List.set_cons_succ])))
          refine C_nil ?_
          clear hc1 hc2
          have htn := popSum_le X all i
          rw [← HT.out] at htn
          go_wp2_with fail
          go_loopw [19, 21] (fun tv yv wr' => ∃ (y c : Nat), yv = .int .u8 (y : Nat) ∧ tv = .int .i64 (c : Nat) ∧ y < 256 ∧ Hid (c + pop y = tn + pop y0) ∧ Sat w wr' (sep (kn K) emp)) (fun _ yv _ => (intOf yv).toNat)
          case atStart => exact ⟨y0, tn, rfl, rfl, hy256, Lib.hid rfl, HSd.out⟩
          case round =>
            clear hxv
            obtain ⟨y, c, rfl, rfl, hy, HC, hS⟩ := hrel
            by_cases hy0' : 0 < y
            · obtain ⟨q, hq⟩ : ∃ q, q = y / 2 := ⟨_, rfl⟩
              obtain ⟨r, hr⟩ : ∃ r, r = y % 2 := ⟨_, rfl⟩
              have hph := pop_half hy
              rw [← hq, ← hr] at hph
              have hrI : (y : Int).tmod 2 = (r : Int) := by rw [Int.tmod_eq_emod_of_nonneg (by omega)]; omega
              have hqI : (y : Int).tdiv 2 = (q : Int) := by rw [Int.tdiv_eq_ediv_of_nonneg (by omega)]; omega
              have hcl : c ≤ 980 := by have := HC.out; have := pop_le y0; omega
              have hr2 : r < 2 := by omega
              have hqy : q < y := by omega
              have hy0I : (y : Int) > 0 := by omega
              have HQ := Lib.hid hph
              have HS := Lib.hid hS
              clear hS hq hr hph hy0'
              go_wp2_with fail
              go_roundw
              case rel => exact ⟨q, c + r, rfl, rfl, by omega, Lib.hid (by have := HC.out; have := HQ.out; omega), HS.out⟩
              case measure => simp only [intOf]; omega
            · obtain rfl : y = 0 := by omega
              have hcE : c = popSum X all (i + 1) := by
                have h1 := HC.out
                rw [pop_zero] at h1
                have h2 : popSum X all (i + 1) = popSum X all i + popAt X all i := rfl
                rw [h2, HPA.out, ← HT.out]; omega
              have HCE := Lib.hid hcE
              clear hcE
              go_wp2_with fail
              go_roundw
              case rel => exact ⟨i + 1, c, by omega, rfl, rfl, HCE, hS⟩
              case measure => simp only [intOf]; omega
        · go_wp2_with fail
          go_meet
          have : i = n := by omega
          subst this
          exact ⟨tn, rfl, HT, hS⟩
    case rest =>
      clear h8
      obtain ⟨tn, rfl, HT, h9⟩ := hcut
      have htn : tn = if 0 ≤ a3 ∧ 0 < m then 1 else 0 := by rw [HT.out, ← HX.out.2.1, ← HN.out]
      clear HT HMI hmI
      by_cases hc : 0 ≤ a3 ∧ 0 < m
      · rw [if_pos hc] at htn
        subst htn
        have g1 : a3 ≥ 0 := hc.1
        have g2 : (n : Int) > (fm : Int) := by have := HN.out; have := hc.2; omega
        clear hc
        obtain ⟨xr1, xr2⟩ := rel_take' fm hfmn HRX.out
        obtain ⟨ar1, ar2⟩ := rel_take' fm hfm HRK.out
        rw [xr2, HX.out.2.2] at xr1
        rw [ar2] at ar1
        have hx1 := (rel_src' HRX.out).2.1
        have ha1 := (rel_src' HRK.out).2.1
        have gx1 : (fm : Int) ≤ (xc : Int) := by have := hx1.1; omega
        have ga1 : (fm : Int) ≤ (c : Int) := by have := ha1.1; omega
        have gf0 : (0 : Int) ≤ (fm : Int) := by omega
        have hxc : xc ≤ 9223372036854775807 := hx1.2.1
        have hcc : c ≤ 9223372036854775807 := ha1.2.1
        have hsb := sameBytes_spec (.slice xa fm xc) (.slice a fm c) (all.take fm) (all.take fm) ((h9.drew.tell ar1).p1.tell xr1).p2.p1
        rw [decide_eq_true rfl] at hsb
        have HSB := Lib.hid hsb
        have hS0 : True := trivial
        clear hsb xr1 xr2 ar1 ar2 hx1 ha1 h9
        go_wp2_with fail
        refine wp_region_canon rfl (fun _ => True) [(0, .p), (1, .p), (2, .p), (3, .p), (4, .p), (5, .p), (6, .p), (7, .p), (8, .p), (9, .e false), (10, .p), (11, .p), (12, .e false), (13, .p), (14, .p)] (by kernel_rfl) ?_
        (repeat (first | (refine C_p (v := ?_) rfl rfl (fun w' => ?_) ?_; rotate_left; (go_simp; with_reducible rfl); simp only [Act.put, List.setIfInBounds_toArray, List.set_cons_zero, List.set_cons_succ]) | (refine C_s (v := ?_) rfl rfl hS0 (fun w' hS => ?_) ?_; rotate_left; ((try dsimp only at hS); go_simp; with_reducible rfl); simp only [Act.put, List.setIfInBounds_toArray, List.set_cons_zero, List.set_cons_succ]) | (refine C_t (v := ?_) rfl rfl ?_ ?_; rotate_left; (go_simp; with_reducible rfl); simp only [Act.put, List.setIfInBounds_toArray, List.set_cons_zero, List.set_cons_succ]) | (refine C_po rfl rfl ?_; simp only [Act.put, List.setIfInBounds_toArray, List.set_cons_zero, List.set_cons_succ]) | (refine C_so rfl rfl hS0 ?_; simp only [Act.put, List.setIfInBounds_toArray, List.set_cons_zero, List.set_cons_succ]) | (refine C_to rfl rfl ?_; simp only [Act.put, List.setIfInBounds_toArray, List.set_cons_zero, List.set_cons_succ])))
        (refine C_e rfl rfl (fun K hK => ?_); go_simp)
        refine HSB.out.mono ?_
        rintro e w6 ⟨rfl, h10⟩
        (refine hK _ _ (fun h => by cases h) ?_; clear hK K; (try simp only [Act.put, List.setIfInBounds_toArray, List.set_cons_zero, List.set_cons_succ]))
        (repeat (first | (refine C_p (v := ?_) rfl rfl (fun w' => ?_) ?_; rotate_left; (go_simp; with_reducible rfl); simp only [Act.put, List.setIfInBounds_toArray, List.set_cons_zero, List.set_cons_succ]) | (refine C_s (v := ?_) rfl rfl hS0 (fun w' hS => ?_) ?_; rotate_left; ((try dsimp only at hS); go_simp; with_reducible rfl); simp only [Act.put, List.setIfInBounds_toArray, List.set_cons_zero, List.set_cons_succ]) | (refine C_t (v := ?_) rfl rfl ?_ ?_; rotate_left; (go_simp; with_reducible rfl); simp only [Act.put, List.setIfInBounds_toArray, List.set_cons_zero, List.set_cons_succ]) | (refine C_po rfl rfl ?_; simp only [Act.put, List.setIfInBounds_toArray, List.set_cons_zero, List.set_cons_succ]) | (refine C_so rfl rfl hS0 ?_; simp only [Act.put, List.setIfInBounds_toArray, List.set_cons_zero, List.set_cons_succ]) | (refine C_to rfl rfl ?_; simp only [Act.put, List.setIfInBounds_toArray, List.set_cons_zero, List.set_cons_succ])))
        (refine C_e rfl rfl (fun K hK => ?_); go_simp)
        refine (lives29_spec h10).mono ?_
        rintro e w7 ⟨rfl, h11⟩
        (refine hK _ _ (fun h => by cases h) ?_; clear hK K; (try simp only [Act.put, List.setIfInBounds_toArray, List.set_cons_zero, List.set_cons_succ]))
        (repeat (first | (refine C_p (v := ?_) rfl rfl (fun w' => ?_) ?_; rotate_left; (go_simp; with_reducible rfl); simp only [Act.put, List.setIfInBounds_toArray, List.set_cons_zero, List.set_cons_succ]) | (refine C_s (v := ?_) rfl rfl hS0 (fun w' hS => ?_) ?_; rotate_left; ((try dsimp only at hS); go_simp; with_reducible rfl); simp only [Act.put, List.setIfInBounds_toArray, List.set_cons_zero, List.set_cons_succ]) | (refine C_t (v := ?_) rfl rfl ?_ ?_; rotate_left; (go_simp; with_reducible rfl); simp only [Act.put, List.setIfInBounds_toArray, List.set_cons_zero, List.set_cons_succ]) | (refine C_po rfl rfl ?_; simp only [Act.put, List.setIfInBounds_toArray, List.set_cons_zero, List.set_cons_succ]) | (refine C_so rfl rfl hS0 ?_; simp only [Act.put, List.setIfInBounds_toArray, List.set_cons_zero, List.set_cons_succ]) | (refine C_to rfl rfl ?_; simp only [Act.put, List.setIfInBounds_toArray, List.set_cons_zero, List.set_cons_succ])))
        refine C_nil ?_
        go_wp2_with fail
        go_ret
        exact ⟨rfl, h11.below⟩
      · rw [if_neg hc] at htn
        subst htn
        have HCN := Lib.hid hc
        clear hc
        rcases Int.lt_or_le a3 0 with g1 | g1
        · have g2 : ¬ a3 ≥ 0 := by omega
          go_wp2_with fail
          refine (lives29_spec h9).mono ?_
          rintro e w7 ⟨rfl, h11⟩
          go_wp2_with fail
          go_ret
          exact ⟨rfl, h11.below⟩
        · have g2 : ¬ (n : Int) > (fm : Int) := by have := HN.out; have := HCN.out; omega
          have g3 : a3 ≥ 0 := g1
          go_wp2_with fail
          refine (lives29_spec h9).mono ?_
          rintro e w7 ⟨rfl, h11⟩
          go_wp2_with fail
          go_ret
          exact ⟨rfl, h11.below⟩
end Go.Proofs.Ytbniekblkbdidaa
