/- AuthmapBytes, the walk. -/
import Derived.Test.YtcmjbjlliehdiaaDoorGAuthmapBytesSQbx
import Derived.Test.YtcmjbjlliehdiaaDoorGAuthmapBytesSFe
import Derived.Test.YtcmjbjlliehdiaaDoorGAuthmapBytes24
import Derived.Test.YtcmjbjlliehdiaaDoorGAuthmapBytes33
namespace Go.Proofs.YtcmjbjlliehdiaaDoor
open Go.RowKit PA
attribute [local go_sem] Oper.semAt_some
def rowQ (J : Mem) (q : Nat) (i : Nat) : Prop := ∃ a1 n1 c1 a2 n2 c2 a3 n3 c3 p, PrfS p ∧ n3 = p.s.length ∧ prfR J (.agg #[.slice a1 n1 c1, .slice a2 n2 c2, .slice a3 n3 c3]) p ∧
  ∀ w', Ext J w' → w'.cell? ⟨q, i * 3, none⟩ = some (.slice a1 n1 c1) ∧ w'.cell? ⟨q, i * 3 + 1, none⟩ = some (.slice a2 n2 c2) ∧ w'.cell? ⟨q, i * 3 + 2, none⟩ = some (.slice a3 n3 c3)
set_option maxRecDepth 100000 in
set_option maxHeartbeats 16000000 in
theorem prfR.mono' {I J : Mem} {v : Value} {p : Prf} (h : Mem.le I J) (hp : prfR I v p) : prfR J v p := prfR.mono h hp
set_option maxRecDepth 100000 in
set_option maxHeartbeats 16000000 in
theorem authmapBytes_walk (a0 : Option Addr) (len0 cap0 : Nat) (z0 : List Int) (a1 a2 a3 a4 a5 a6 : Int) (a7 : Option Addr) (len7 cap7 : Nat) (z7 : List Int) (w : World) (hW : WholeOK w)
    (w0 : IsArg w a0 len0 cap0 z0) (w1 : (Lit.int .i64 a1).wf = true) (w2 : (Lit.int .i64 a2).wf = true) (w3 : (Lit.int .i64 a3).wf = true) (w4 : (Lit.int .i64 a4).wf = true) (w5 : (Lit.int .u64 a5).wf = true) (w6 : (Lit.int .u8 a6).wf = true) (w7 : IsArgB w a7 len7 cap7 z7) :
    Calls Tryd.prog 5 #[.slice a0 len0 cap0, .int .i64 a1, .int .i64 a2, .int .i64 a3, .int .i64 a4, .int .u64 a5, .int .u8 a6, .slice a7 len7 cap7] w fun e w' => e = .returned (.bool true) ∧ Below w.heap.size w w' := by
  obtain ⟨ns, hns, hr0, h64⟩ := argI w0
  obtain ⟨raw, hraw, hrw⟩ := argB w7
  obtain ⟨hh, rfl⟩ : ∃ hh : Nat, a5 = (hh : Int) := ⟨a5.toNat, by have := (bounds_u64 w5).1; omega⟩
  have hh64 : hh < 18446744073709551616 := by have := (bounds_u64 w5).2; omega
  obtain ⟨x, rfl⟩ : ∃ x : UInt8, a6 = (x.toNat : Int) := ⟨UInt8.ofNat a6.toNat, by have := bounds_u8 w6; rw [UInt8.toNat_ofNat', Nat.mod_eq_of_lt (by omega)]; omega⟩
  have HM1 := Lib.hid (made_kn a0 len0 cap0 ns 12 (by omega) hns h64 hr0 (Sat.startKn w))
  have HI := Lib.hid (And.intro (i64_of_wf w1) (And.intro (i64_of_wf w2) (And.intro (i64_of_wf w3) (And.intro (i64_of_wf w4) hh64))))
  have HRAW := Lib.hid (And.intro hraw hrw)
  have HW := Lib.hid hW
  have hb1 := keyQ_range a1
  have hb2 := keyQ_range a2
  obtain ⟨k1, hk1⟩ : ∃ z, z = keyQ a1 := ⟨_, rfl⟩
  obtain ⟨k2, hk2⟩ : ∃ z, z = keyQ a2 := ⟨_, rfl⟩
  have HK1 := Lib.hid (fun (w' : World) (A : Assn) (h : Sat w w' A) => qkey_spec a1 (i64_of_wf w1) h)
  have HK2 := Lib.hid (fun (w' : World) (A : Assn) (h : Sat w w' A) => qkey_spec a2 (i64_of_wf w2) h)
  rw [← hk1] at HK1 hb1
  rw [← hk2] at HK2 hb2
  obtain ⟨lo, hlo⟩ : ∃ z, z = min k1 k2 := ⟨_, rfl⟩
  obtain ⟨hi, hhi⟩ : ∃ z, z = max k1 k2 := ⟨_, rfl⟩
  have elo : min k1 k2 = lo := hlo.symm
  have ehi : max k1 k2 = hi := hhi.symm
  have HBB := Lib.hid (show 0 ≤ lo ∧ lo ≤ hi ∧ hi ≤ 4095 by omega)
  clear hW w0 w1 w2 w3 w4 w5 w6 w7 hns hr0 h64 hraw hrw hb1 hb2 hk1 hk2 hlo hhi hh64
  go_enter Tryd.func5, Tryd.ntmps5
  go_wp2_with fail
  refine HM1.out.mono ?_
  rintro e w2 ⟨q1, J1, pa, pc, L, rfl, -, hLA, hLl, hLk, hJ1, hqR, -, -, h2⟩
  have HKA := Lib.hid (HK1.out w2 _ h2)
  have HL := Lib.hid (And.intro hLA (And.intro hLl (And.intro hLk (And.intro hqR hJ1))))
  clear HM1 h2 hLA hLl hLk hJ1 hqR
  go_wp2_with fail
  refine HKA.out.mono ?_
  rintro e w3 ⟨rfl, h3⟩
  have HKB := Lib.hid (HK2.out w3 _ h3)
  clear HKA h3
  go_wp2_with fail
  refine HKB.out.mono ?_
  rintro e w4 ⟨rfl, h4⟩
  have HKC := Lib.hid (HK1.out w4 _ h4)
  clear HKB h4
  go_wp2_with fail
  refine HKC.out.mono ?_
  rintro e w5 ⟨rfl, h5⟩
  have HKD := Lib.hid (HK2.out w5 _ h5)
  clear HKC h5 HK1 HK2
  go_wp2_with fail
  refine HKD.out.mono ?_
  rintro e w6 ⟨rfl, h6⟩
  have HR := Lib.hid (qrange_ok (qv_kn w q1 L) HL.out.1 (by have := HL.out.2.1; omega) (fun y hy => by have := (HL.out.2.2.1 y hy).2; omega) lo hi HBB.out (show Sat w w6 (sep (qmA q1 L) (sep (kn J1) emp)) from h6.tell HL.out.2.2.2.1))
  clear HKD h6
  go_wp2_with fail
  refine HR.out.mono ?_
  rintro e w7 ⟨ra, rn, rc, la, nl, lc, ta, nt, tc, sa, ns', sc, J2, rfl, -, hJ2, -, hpr, h7⟩
  have hsl : ns' = (rngP (lkP L) lo hi).s.length := by
    obtain ⟨_, _, _, _, _, _, _, _, _, e, en⟩ := prfR_form hpr
    simp only [Value.agg.injEq, Array.mk.injEq, List.cons.injEq, Value.slice.injEq, and_true] at e
    rw [e.2.2.2.1]; exact en
  obtain ⟨x1, hx1⟩ : ∃ x1, x1 = w7.heap.size := ⟨_, rfl⟩
  obtain ⟨w8, hw8⟩ : ∃ w8, w8 = w7.alloc (.cells #[.slice la nl lc, .slice ta nt tc, .slice sa ns' sc] 49) := ⟨_, rfl⟩
  have h8 := h7.drop.alloc (.cells #[.slice la nl lc, .slice ta nt tc, .slice sa ns' sc] 49)
  rw [← hx1, ← hw8] at h8
  obtain ⟨J3, hJ3, hbx, h9⟩ := h8.settle.learn
  have HQ1 := Lib.hid (And.intro hx1 hw8)
  have hsm := rngP_small (lkP L) lo hi
  have hps := rngP_S (lkP L) lo hi
  obtain ⟨p, hp⟩ : ∃ z, z = rngP (lkP L) lo hi := ⟨_, rfl⟩
  rw [← hp] at hpr hsm hps hsl
  have HP := Lib.hid (And.intro hsl (And.intro hsm (And.intro hps (prfR.mono hJ3 hpr))))
  have HJ3 := Lib.hid (Mem.le_trans HL.out.2.2.2.2 (Mem.le_trans hJ2 hJ3))
  clear HR h7 h8 hx1 hw8 hp hJ2 hJ3 hsl hsm hps hpr
  go_upto_region 3 with (fail)
  rw [← HQ1.out.1, ← HQ1.out.2]
  go_upto_region 5 with (fail)
  have hd := h9.drew
  obtain ⟨wd, hwd⟩ : ∃ wd, wd = w8.drew := ⟨_, rfl⟩
  rw [← hwd] at hd
  have hcx : ∀ w', Ext J3 w' → w'.cell? ⟨x1, 0, none⟩ = some (.slice la nl lc) ∧ w'.cell? ⟨x1, 1, none⟩ = some (.slice ta nt tc) ∧ w'.cell? ⟨x1, 2, none⟩ = some (.slice sa ns' sc) := fun w' he =>
    ⟨cell_of_row w' x1 0 _ _ _ (he _ _ hbx), cell_of_row w' x1 1 _ _ _ (he _ _ hbx), cell_of_row w' x1 2 _ _ _ (he _ _ hbx)⟩
  have hS0 := hcx wd hd.ext
  have HBE := Lib.hid (bent_spec (.agg #[.slice la nl lc, .slice ta nt tc, .slice sa ns' sc]) p a3 a4 hh hd HP.out.2.2.2 HP.out.2.2.1.ok HI.out.2.2.1 HI.out.2.2.2.1 HI.out.2.2.2.2)
  have HCX := Lib.hid hcx
  clear h9 hcx hbx HQ1 hd
  obtain ⟨bp, hbp⟩ : ∃ z, z = bentP p (aroundI a3 8).toNat (aroundI a4 p.l.length).toNat (aroundI a4 p.r.length).toNat (aroundI a4 p.s.length).toNat hh := ⟨_, rfl⟩
  have hbs : PrfS bp := by rw [hbp]; exact bentP_S ⟨by have := HP.out.2.1.1; omega, by have := HP.out.2.1.2.1; omega, by have := HP.out.2.1.2.2.1; omega⟩ HP.out.2.2.1 _ _ _ _ _ HI.out.2.2.2.2
  rw [← hbp] at HBE
  have HBS := Lib.hid hbs
  clear hbp hbs
  refine wp_region_canon rfl (fun w' => w'.cell? ⟨x1, 0, none⟩ = some (.slice la nl lc) ∧ w'.cell? ⟨x1, 1, none⟩ = some (.slice ta nt tc) ∧ w'.cell? ⟨x1, 2, none⟩ = some (.slice sa ns' sc)) [(0, .s), (1, .t), (2, .p), (3, .p), (4, .p), (6, .p), (5, .e true), (7, .e false), (8, .p)] (by kernel_rfl) ?_
  rw [← hwd]
  obtain ⟨e0, e1, e2⟩ := hS0
  have hS0 : wd.cell? ⟨x1, 0, none⟩ = some (.slice la nl lc) ∧ wd.cell? ⟨x1, 1, none⟩ = some (.slice ta nt tc) ∧ wd.cell? ⟨x1, 2, none⟩ = some (.slice sa ns' sc) := ⟨e0, e1, e2⟩
  clear hwd
  (repeat (first | (refine C_p (v := ?_) rfl rfl (fun w' => ?_) ?_; rotate_left; (go_simp; with_reducible rfl); simp only [Act.put, List.setIfInBounds_toArray, List.set_cons_zero, List.set_cons_succ]) | (refine C_s (v := ?_) rfl rfl hS0 (fun w' hS => ?_) ?_; rotate_left; ((try dsimp only at hS); go_simp; with_reducible rfl); simp only [Act.put, List.setIfInBounds_toArray, List.set_cons_zero, List.set_cons_succ]) | (refine C_t (v := ?_) rfl rfl ?_ ?_; rotate_left; (go_simp; with_reducible rfl); simp only [Act.put, List.setIfInBounds_toArray, List.set_cons_zero, List.set_cons_succ]) | (refine C_po rfl rfl ?_; simp only [Act.put, List.setIfInBounds_toArray, List.set_cons_zero, List.set_cons_succ]) | (refine C_so rfl rfl hS0 ?_; simp only [Act.put, List.setIfInBounds_toArray, List.set_cons_zero, List.set_cons_succ]) | (refine C_to rfl rfl ?_; simp only [Act.put, List.setIfInBounds_toArray, List.set_cons_zero, List.set_cons_succ])))
  (refine C_e rfl rfl (fun K hK => ?_); go_simp)
  refine HBE.out.mono ?_
  rintro e w9 ⟨J4, vb, hJ4, rfl, hpb, h9⟩
  have hS1 := HCX.out w9 (fun b o hb => h9.ext b o (hJ4 b o hb))
  clear HBE e0 e1 e2 hS0
  (refine hK _ _ (fun _ => hS1) ?_; clear hK K; (try simp only [Act.put, List.setIfInBounds_toArray, List.set_cons_zero, List.set_cons_succ]))
  clear hS1
  obtain ⟨b1, n1, c1, b2, n2, c2, b3, n3, c3, rfl, hn3⟩ := prfR_form hpb
  have HN3 := Lib.hid hn3
  clear hn3
  (refine C_e rfl rfl (fun K hK => ?_); go_simp)
  obtain ⟨q, hq⟩ : ∃ q, q = w9.heap.size := ⟨_, rfl⟩
  have h10 := h9.alloc (.cells #[.slice la nl lc, .slice ta nt tc, .slice sa ns' sc, .slice b1 n1 c1, .slice b2 n2 c2, .slice b3 n3 c3, .slice none 0 0, .slice none 0 0, .slice none 0 0] 49)
  obtain ⟨w10, hw10⟩ : ∃ w10, w10 = w9.alloc (.cells #[.slice la nl lc, .slice ta nt tc, .slice sa ns' sc, .slice b1 n1 c1, .slice b2 n2 c2, .slice b3 n3 c3, .slice none 0 0, .slice none 0 0, .slice none 0 0] 49) := ⟨_, rfl⟩
  rw [← hq, ← hw10] at h10
  rw [← hq, ← hw10]
  obtain ⟨J5, hJ5, hbq, h11⟩ := h10.settle.learn
  have HROW : Hid (∀ i, i < 3 → rowQ J5 q i) := Lib.hid (by
    intro i hi
    have hc := fun (k : Nat) w' (he : Ext J5 w') => prf_cells hbq he k
    rcases (by omega : i = 0 ∨ i = 1 ∨ i = 2) with rfl | rfl | rfl
    · exact ⟨_, _, _, _, _, _, _, _, _, p, HP.out.2.2.1, HP.out.1, prfR.mono (Mem.le_trans hJ4 hJ5) HP.out.2.2.2, fun w' he => ⟨hc 0 w' he, hc 1 w' he, hc 2 w' he⟩⟩
    · exact ⟨_, _, _, _, _, _, _, _, _, bp, HBS.out, HN3.out, prfR.mono hJ5 hpb, fun w' he => ⟨hc 3 w' he, hc 4 w' he, hc 5 w' he⟩⟩
    · exact ⟨_, _, _, _, _, _, _, _, _, ⟨[], [], []⟩, noP_S, rfl, noP_R _, fun w' he => ⟨hc 6 w' he, hc 7 w' he, hc 8 w' he⟩⟩)
  have HJ5 := Lib.hid (Mem.le_trans HJ3.out (Mem.le_trans hJ4 hJ5))
  have H11 := Lib.hid h11
  clear hq hw10 h10 hbq h11 h9 hJ4 hJ5 hpb HCX HP HBS HJ3 HL HBB
  (refine hK _ _ (fun h => by cases h) ?_; clear hK K; (try simp only [Act.put, List.setIfInBounds_toArray, List.set_cons_zero, List.set_cons_succ]))
  (repeat (first | (refine C_p (v := ?_) rfl rfl (fun w' => ?_) ?_; rotate_left; (go_simp; with_reducible rfl); simp only [Act.put, List.setIfInBounds_toArray, List.set_cons_zero, List.set_cons_succ]) | (refine C_s (v := ?_) rfl rfl hS0 (fun w' hS => ?_) ?_; rotate_left; ((try dsimp only at hS); go_simp; with_reducible rfl); simp only [Act.put, List.setIfInBounds_toArray, List.set_cons_zero, List.set_cons_succ]) | (refine C_t (v := ?_) rfl rfl ?_ ?_; rotate_left; (go_simp; with_reducible rfl); simp only [Act.put, List.setIfInBounds_toArray, List.set_cons_zero, List.set_cons_succ]) | (refine C_po rfl rfl ?_; simp only [Act.put, List.setIfInBounds_toArray, List.set_cons_zero, List.set_cons_succ]) | (refine C_so rfl rfl hS0 ?_; simp only [Act.put, List.setIfInBounds_toArray, List.set_cons_zero, List.set_cons_succ]) | (refine C_to rfl rfl ?_; simp only [Act.put, List.setIfInBounds_toArray, List.set_cons_zero, List.set_cons_succ])))
  refine C_nil ?_
  go_wp2_with fail
  go_loopw [22] (fun iv wr => ∃ (i : Nat) (J : Mem), i ≤ 3 ∧ iv = .int .i64 (i : Nat) ∧ Hid (Mem.le J5 J) ∧ Sat w wr (sep (kn J) emp)) (fun iv _ => 3 - (intOf iv).toNat)
  case atStart => exact ⟨0, J5, by omega, rfl, Lib.hid (Mem.le_refl _), H11.out⟩
  case round =>
    clear H11
    obtain ⟨i, J, hi, rfl, HJ, hS⟩ := hrel
    by_cases h3 : i = 3
    · subst h3
      have g1 : ¬ ((3 : Nat) : Int) < 3 := by omega
      have HV := Lib.hid (lives33_spec HW.out hS)
      clear hS
      go_wp2_with fail
      refine HV.out.mono ?_
      rintro e w12 ⟨rfl, h12⟩
      have HB := Lib.hid h12.below
      clear HV h12
      go_wp2_with fail
      go_ret
      exact ⟨rfl, HB.out⟩
    · have hi3 : i < 3 := by omega
      have g1 : (i : Int) < 3 := by omega
      obtain ⟨a1', n1', c1', a2', n2', c2', a3', n3', c3', p', hps, hn3, hpr, hcx⟩ := HROW.out i hi3
      have HR := Lib.hid (And.intro hps (And.intro hn3 (And.intro hpr hcx)))
      obtain ⟨c0, c1, c2⟩ := hcx wr (fun b o hb => hS.ext b o (HJ.out b o hb))
      obtain ⟨C, hC⟩ : ∃ C, C = encP p' := ⟨_, rfl⟩
      obtain ⟨nC, hnC⟩ : ∃ nC, nC = C.length := ⟨_, rfl⟩
      have hCl := hps.len
      rw [← hC, ← hnC] at hCl
      have hdec := decA_of p' hps.ok
      have hraw : (stR (.ok C)).1 = p'.s := by
        have e : C = encR p'.s ++ (hvsE p'.l ++ (hvsE p'.r ++ [])) := by rw [hC]; unfold encP; simp only [List.append_assoc, List.append_nil]
        rw [e, qR_of p'.s _ (by have := hps.s; omega)]
      rw [← hC] at hdec
      have HC := Lib.hid (And.intro hC (And.intro hnC (And.intro hdec hraw)))
      clear hps hn3 hpr hcx h3 hdec hraw hnC
      go_wp2_with fail
      refine (proof_spec a1' a2' a3' n1' n2' n3' c1' c2' c3' hS).mono ?_
      rintro e w11 ⟨rfl, h11⟩
      have he := aencode_spec _ p' h11 (prfR.mono HJ.out HR.out.2.2.1) HR.out.1.ok
      rw [← hC, ← HC.out.2.1] at he
      have HE := Lib.hid he
      clear hC hS h11 he c0 c1 c2
      go_wp2_with fail
      refine HE.out.mono ?_
      rintro e w12 ⟨ca, cc, rfl, h12⟩
      obtain ⟨J6, hJ6, hvc, h13⟩ := osl_learnQ h12 HC.out.2.1
      have HJ6 := Lib.hid (Mem.le_trans HJ.out hJ6)
      have hd := adecode_spec _ C h13 hvc (by rw [← HC.out.2.1]; omega)
      rw [HC.out.2.2.1] at hd
      rw [if_neg (by simp)] at hd
      have HD := Lib.hid hd
      have HVC := Lib.hid hvc
      clear HE h12 hJ6 h13 hd hvc
      go_wp2_with fail
      refine HD.out.mono ?_
      rintro e w13 ⟨J7, vd, hJ7, rfl, hpd, h14⟩
      rw [Option.getD_some] at hpd
      obtain ⟨d1, m1, k1', d2, m2, k2', d3, m3, k3', rfl, hm3⟩ := prfR_form hpd
      obtain ⟨x24, hx24⟩ : ∃ z, z = w13.heap.size := ⟨_, rfl⟩
      have h15 := h14.alloc (.cells #[.slice d1 m1 k1', .slice d2 m2 k2', .slice d3 m3 k3'] 40)
      obtain ⟨w14, hw14⟩ : ∃ z, z = w13.alloc (.cells #[.slice d1 m1 k1', .slice d2 m2 k2', .slice d3 m3 k3'] 40) := ⟨_, rfl⟩
      rw [← hx24, ← hw14] at h15
      obtain ⟨J8, hJ8, hb24, h16⟩ := h15.settle.learn
      have hcd : ∀ w', Ext J8 w' → w'.cell? ⟨x24, 0, none⟩ = some (.slice d1 m1 k1') ∧ w'.cell? ⟨x24, 1, none⟩ = some (.slice d2 m2 k2') ∧ w'.cell? ⟨x24, 2, none⟩ = some (.slice d3 m3 k3') := fun w' he =>
        ⟨cell_of_row w' x24 0 _ _ _ (he _ _ hb24), cell_of_row w' x24 1 _ _ _ (he _ _ hb24), cell_of_row w' x24 2 _ _ _ (he _ _ hb24)⟩
      have HX := Lib.hid (And.intro hx24 hw14)
      have HCD := Lib.hid hcd
      have HPD := Lib.hid (prfR.mono hJ8 hpd)
      have HJ8 := Lib.hid (Mem.le_trans hJ7 hJ8)
      have hrd := read_spec (.slice ca nC cc) C (h16.tell (p := fun I => rBytes.rel I [.slice ca nC cc] C) (hp := fun _ _ hl => rBytes.mono hl) (rBytes.mono HJ8.out HVC.out)) (by rw [← HC.out.2.1]; omega)
      have HRD := Lib.hid hrd
      have HM3 := Lib.hid hm3
      clear HD hJ7 hpd h14 hx24 h15 hw14 hJ8 hb24 h16 hcd hrd hm3
      go_upto_region 11 with (fail)
      rw [← HX.out.1, ← HX.out.2]
      go_wp2_with fail
      refine HRD.out.mono ?_
      rintro e w15 ⟨rp, rfl, h17⟩
      have h18 : Sat w w15 (sep (kn J8) (sep (isRd 129 rp (.ok C)) emp)) := by
        have := h17.p1.drop
        simpa only [sep_comm, sep_lcomm, sep_assoc] using this
      have hEx : ∀ w', Ext J8 w' → Ext J5 w' := fun w' he b o hb => he b o (HJ8.out b o (HJ6.out b o hb))
      have HEX := Lib.hid hEx
      clear HRD h17 hEx HX
      go_upto_region 12 with (fail)
      have hd := h18.drew
      obtain ⟨wd, hwd⟩ : ∃ z, z = w15.drew := ⟨_, rfl⟩
      rw [← hwd] at hd
      have HCQ := Lib.hid HR.out.2.2.2
      obtain ⟨c0, c1, c2⟩ := HCQ.out wd (HEX.out wd hd.ext)
      obtain ⟨y0, y1, y2⟩ := HCD.out wd hd.ext
      have hq1 := qencode_spec _ p' hd (prfR.mono (Mem.le_trans HJ6.out HJ8.out) HR.out.2.2.1) HR.out.1.ok
      rw [← HC.out.1, ← HC.out.2.1] at hq1
      have HQE := Lib.hid hq1
      have hS0 := And.intro c0 (And.intro c1 c2)
      clear hd h18 hq1 y0 y1 y2
      refine wp_region_canon rfl (fun w' => w'.cell? ⟨q, i * 3, none⟩ = some (.slice a1' n1' c1') ∧ w'.cell? ⟨q, i * 3 + 1, none⟩ = some (.slice a2' n2' c2') ∧ w'.cell? ⟨q, i * 3 + 2, none⟩ = some (.slice a3' n3' c3')) [(0, .p), (1, .p), (2, .p), (3, .p), (4, .p), (5, .p), (6, .p), (7, .t), (8, .e true), (9, .e true), (10, .p), (11, .p), (12, .p), (13, .t), (15, .p), (16, .p), (17, .p), (18, .s), (14, .e true), (19, .e true), (20, .p), (21, .p), (22, .p), (23, .p), (24, .p), (25, .p), (26, .p), (27, .p), (28, .p), (29, .p), (30, .p), (31, .p), (32, .p), (34, .p), (35, .p), (36, .p), (37, .p), (38, .s), (33, .e true), (39, .e false), (40, .p), (41, .p)] (by kernel_rfl) ?_
      rw [← hwd]
      clear hwd
      (repeat (first | (refine C_p (v := ?_) rfl rfl (fun w' => ?_) ?_; rotate_left; (go_simp; with_reducible rfl); simp only [Act.put, List.setIfInBounds_toArray, List.set_cons_zero, List.set_cons_succ]) | (refine C_s (v := ?_) rfl rfl hS0 (fun w' hS => ?_) ?_; rotate_left; ((try dsimp only at hS); go_simp; with_reducible rfl); simp only [Act.put, List.setIfInBounds_toArray, List.set_cons_zero, List.set_cons_succ]) | (refine C_t (v := ?_) rfl rfl ?_ ?_; rotate_left; (go_simp; with_reducible rfl); simp only [Act.put, List.setIfInBounds_toArray, List.set_cons_zero, List.set_cons_succ]) | (refine C_po rfl rfl ?_; simp only [Act.put, List.setIfInBounds_toArray, List.set_cons_zero, List.set_cons_succ]) | (refine C_so rfl rfl hS0 ?_; simp only [Act.put, List.setIfInBounds_toArray, List.set_cons_zero, List.set_cons_succ]) | (refine C_to rfl rfl ?_; simp only [Act.put, List.setIfInBounds_toArray, List.set_cons_zero, List.set_cons_succ])))
      (refine C_e rfl rfl (fun K hK => ?_); go_simp)
      refine HQE.out.mono ?_
      rintro e w16 ⟨qa, qc, rfl, h19⟩
      obtain ⟨J9, hJ9, hvq, h20⟩ := osl_learnQ h19 HC.out.2.1
      have hS1 := HCQ.out w16 (HEX.out w16 (fun b o hb => h20.ext b o (hJ9 b o hb)))
      have hsb := sameBytes_kn _ _ C C h20 (rBytes.mono (Mem.le_trans HJ8.out hJ9) HVC.out) hvq
      rw [decide_eq_true rfl] at hsb
      have HSB := Lib.hid hsb
      have HJ9 := Lib.hid hJ9
      clear HQE h19 hJ9 hvq h20 c0 c1 c2 hS0 hsb
      (refine hK _ _ (fun _ => hS1) ?_; clear hK K; (try simp only [Act.put, List.setIfInBounds_toArray, List.set_cons_zero, List.set_cons_succ]))
      clear hS1
      (refine C_e rfl rfl (fun K hK => ?_); go_simp)
      refine HSB.out.mono ?_
      rintro e w17 ⟨rfl, h21⟩
      have hE17 : Ext J8 w17 := fun b o hb => h21.ext b o (HJ9.out b o hb)
      have hS0 := HCQ.out w17 (HEX.out w17 hE17)
      obtain ⟨y0, y1, y2⟩ := HCD.out w17 hE17
      have HBR := Lib.hid (bare_spec d1 d2 d3 m1 m2 m3 k1' k2' k3' h21)
      clear HSB h21 hE17
      (refine hK _ _ (fun _ => hS0) ?_; clear hK K; (try simp only [Act.put, List.setIfInBounds_toArray, List.set_cons_zero, List.set_cons_succ]))
      (repeat (first | (refine C_p (v := ?_) rfl rfl (fun w' => ?_) ?_; rotate_left; (go_simp; with_reducible rfl); simp only [Act.put, List.setIfInBounds_toArray, List.set_cons_zero, List.set_cons_succ]) | (refine C_s (v := ?_) rfl rfl hS0 (fun w' hS => ?_) ?_; rotate_left; ((try dsimp only at hS); go_simp; with_reducible rfl); simp only [Act.put, List.setIfInBounds_toArray, List.set_cons_zero, List.set_cons_succ]) | (refine C_t (v := ?_) rfl rfl ?_ ?_; rotate_left; (go_simp; with_reducible rfl); simp only [Act.put, List.setIfInBounds_toArray, List.set_cons_zero, List.set_cons_succ]) | (refine C_po rfl rfl ?_; simp only [Act.put, List.setIfInBounds_toArray, List.set_cons_zero, List.set_cons_succ]) | (refine C_so rfl rfl hS0 ?_; simp only [Act.put, List.setIfInBounds_toArray, List.set_cons_zero, List.set_cons_succ]) | (refine C_to rfl rfl ?_; simp only [Act.put, List.setIfInBounds_toArray, List.set_cons_zero, List.set_cons_succ])))
      (refine C_e rfl rfl (fun K hK => ?_); go_simp)
      refine HBR.out.mono ?_
      rintro e w18 ⟨rfl, h22⟩
      have hS2 := HCQ.out w18 (HEX.out w18 (fun b o hb => h22.ext b o (HJ9.out b o hb)))
      have hsp := sameProof_spec _ _ p' p' h22 (prfR.mono HJ9.out HPD.out) (prfR.mono (Mem.le_trans HJ6.out (Mem.le_trans HJ8.out HJ9.out)) HR.out.2.2.1)
      rw [decide_eq_true rfl] at hsp
      have HSP := Lib.hid hsp
      clear HBR h22 hsp y0 y1 y2 hS0
      (refine hK _ _ (fun _ => hS2) ?_; clear hK K; (try simp only [Act.put, List.setIfInBounds_toArray, List.set_cons_zero, List.set_cons_succ]))
      clear hS2
      (refine C_e rfl rfl (fun K hK => ?_); go_simp)
      refine HSP.out.mono ?_
      rintro e w19 ⟨rfl, h23⟩
      have hS0 := HCQ.out w19 (HEX.out w19 (fun b o hb => h23.ext b o (HJ9.out b o hb)))
      have b9 : ((nC : Int) == 0) = false := by simp; omega
      have HRW := Lib.hid (rdraw_spec rp (.ok C) h23.p1 (by show C.length ≤ _; rw [← HC.out.2.1]; omega))
      clear HSP h23
      (refine hK _ _ (fun _ => hS0) ?_; clear hK K; (try simp only [Act.put, List.setIfInBounds_toArray, List.set_cons_zero, List.set_cons_succ]))
      (repeat (first | (refine C_p (v := ?_) rfl rfl (fun w' => ?_) ?_; rotate_left; (go_simp; with_reducible rfl); simp only [Act.put, List.setIfInBounds_toArray, List.set_cons_zero, List.set_cons_succ]) | (refine C_s (v := ?_) rfl rfl hS0 (fun w' hS => ?_) ?_; rotate_left; ((try dsimp only at hS); go_simp; with_reducible rfl); simp only [Act.put, List.setIfInBounds_toArray, List.set_cons_zero, List.set_cons_succ]) | (refine C_t (v := ?_) rfl rfl ?_ ?_; rotate_left; (go_simp; with_reducible rfl); simp only [Act.put, List.setIfInBounds_toArray, List.set_cons_zero, List.set_cons_succ]) | (refine C_po rfl rfl ?_; simp only [Act.put, List.setIfInBounds_toArray, List.set_cons_zero, List.set_cons_succ]) | (refine C_so rfl rfl hS0 ?_; simp only [Act.put, List.setIfInBounds_toArray, List.set_cons_zero, List.set_cons_succ]) | (refine C_to rfl rfl ?_; simp only [Act.put, List.setIfInBounds_toArray, List.set_cons_zero, List.set_cons_succ])))
      clear b9 hS0
      (refine C_e rfl rfl (fun K hK => ?_); go_simp)
      refine HRW.out.mono ?_
      rintro e w20 ⟨vr, rfl, h24⟩
      rw [HC.out.2.2.2] at h24
      obtain ⟨J10, hJ10, hvr, h25⟩ := (show Sat w w20 (sep (rBytes.is [vr] p'.s) (sep (kn J9) (sep (isRd 129 rp (stR (.ok C)).2) emp))) by simpa only [sep_comm, sep_lcomm, sep_assoc] using h24).learn
      have hs3 : rBytes.rel J10 [.slice a3' n3' c3'] p'.s := by
        obtain ⟨_, _, _, e, _, _, r3⟩ := HR.out.2.2.1
        simp only [Value.agg.injEq, Array.mk.injEq, List.cons.injEq, and_true] at e
        obtain ⟨-, -, rfl⟩ := e
        exact rBytes.mono (Mem.le_trans HJ6.out (Mem.le_trans HJ8.out (Mem.le_trans HJ9.out hJ10))) r3
      have hS3 := HCQ.out w20 (HEX.out w20 (fun b o hb => h25.ext b o (hJ10 b o (HJ9.out b o hb))))
      have hsb := sameBytes_kn vr _ p'.s p'.s h25 hvr hs3
      rw [decide_eq_true rfl] at hsb
      have HSB := Lib.hid hsb
      have HJ10 := Lib.hid (Mem.le_trans HJ8.out (Mem.le_trans HJ9.out hJ10))
      clear HRW h24 hJ10 hvr h25 hs3 hsb
      (refine hK _ _ (fun _ => hS3) ?_; clear hK K; (try simp only [Act.put, List.setIfInBounds_toArray, List.set_cons_zero, List.set_cons_succ]))
      clear hS3
      (refine C_e rfl rfl (fun K hK => ?_); go_simp)
      refine HSB.out.mono ?_
      rintro e w21 ⟨rfl, h26⟩
      have h27 : Sat w w21 (sep (kn J10) emp) := by
        have := h26.p1.drop
        simpa only [sep_comm, sep_lcomm, sep_assoc] using this
      have HS27 := Lib.hid h27
      clear HSB h26 h27
      (refine hK _ _ (fun h => by cases h) ?_; clear hK K; (try simp only [Act.put, List.setIfInBounds_toArray, List.set_cons_zero, List.set_cons_succ]))
      (repeat (first | (refine C_p (v := ?_) rfl rfl (fun w' => ?_) ?_; rotate_left; (go_simp; with_reducible rfl); simp only [Act.put, List.setIfInBounds_toArray, List.set_cons_zero, List.set_cons_succ]) | (refine C_s (v := ?_) rfl rfl hS0 (fun w' hS => ?_) ?_; rotate_left; ((try dsimp only at hS); go_simp; with_reducible rfl); simp only [Act.put, List.setIfInBounds_toArray, List.set_cons_zero, List.set_cons_succ]) | (refine C_t (v := ?_) rfl rfl ?_ ?_; rotate_left; (go_simp; with_reducible rfl); simp only [Act.put, List.setIfInBounds_toArray, List.set_cons_zero, List.set_cons_succ]) | (refine C_po rfl rfl ?_; simp only [Act.put, List.setIfInBounds_toArray, List.set_cons_zero, List.set_cons_succ]) | (refine C_so rfl rfl hS0 ?_; simp only [Act.put, List.setIfInBounds_toArray, List.set_cons_zero, List.set_cons_succ]) | (refine C_to rfl rfl ?_; simp only [Act.put, List.setIfInBounds_toArray, List.set_cons_zero, List.set_cons_succ])))
      refine C_nil ?_
      go_wp2_with fail
      obtain ⟨r1, r2⟩ := aroundI_lt a4 (nC : Int) (by omega)
      obtain ⟨j, hj⟩ : ∃ j : Nat, aroundI a4 nC = j := ⟨(aroundI a4 nC).toNat, by omega⟩
      have har := around_spec a4 (nC : Int) w21 HI.out.2.2.2.1.1 HI.out.2.2.2.1.2 (by omega) (by omega)
      rw [hj] at har r1 r2
      have HAR := Lib.hid har
      have hjn : j < nC := by omega
      clear har hj r1 r2
      refine HAR.out.mono ?_
      rintro e w' ⟨rfl, rfl⟩
      clear HAR
      have hS2 := (HS27.out.alloc (.cells #[] 5)).osl_mk 0 0 1 [] rfl (by omega) (by unfold maxLen; omega) rfl rfl
      have HOK := Lib.hid (rel_okQ hS2.p1 (rBytes.mono HJ10.out HVC.out))
      go_wp2_with (at_builtin; refine wpl_append_osl rfl (.tmp 124) (.tmp 125) 32 rfl 5 1 1 (.int .u8 0) Tryd.underlying32 infoU8w rfl rfl hS2 rfl (C.map bv) HOK.out.len HOK.out.nil HOK.out.src HOK.out.one (by omega) (by unfold maxLen; omega) ?_)
      intro ea ec w22 h29
      clear hS2 HOK HS27
      obtain ⟨g, rfl, hgc, hgf, hset⟩ := h29.osl_set j (by rw [List.length_map, ← HC.out.2.1]; exact hjn) (.int .u8 (x.toNat : Int))
      obtain ⟨vx, hvx⟩ : ∃ vx, w22.cell? ⟨g, j, none⟩ = some vx := ⟨_, hgc⟩
      clear hgc h29
      obtain ⟨T, hT⟩ : ∃ T, T = C.set j x := ⟨_, rfl⟩
      have hTl : nC = T.length := by rw [hT, List.length_set]; exact HC.out.2.1
      have hs2 : (C.map bv).set j (.int .u8 (x.toNat : Int)) = T.map bv := by rw [hT, List.map_set]; rfl
      rw [hs2] at hset
      obtain ⟨J11, hJ11, hvT, h30⟩ := osl_learnQ hset hTl
      obtain ⟨w23, hw23⟩ : ∃ z, z = w22.setCell ⟨g, j, none⟩ (.int .u8 (x.toNat : Int)) := ⟨_, rfl⟩
      rw [← hw23] at h30
      have hjI : (j : Int) < (nC : Int) := by omega
      have HTL := Lib.hid hTl
      have HVT := Lib.hid hvT
      have HJ11 := Lib.hid (Mem.le_trans HJ10.out hJ11)
      have HS30 := Lib.hid h30
      have HW23 := Lib.hid hw23
      clear hT hs2 hset hTl hvT hJ11 h30 hw23
      go_upto_region 17 with (fail)
      rw [← HW23.out]
      have hd := HS30.out.drew
      obtain ⟨wd2, hwd2⟩ : ∃ z, z = w23.drew := ⟨_, rfl⟩
      rw [← hwd2] at hd
      obtain ⟨hrt, hjc, hccI, htkl⟩ := rel_takeQ j (Nat.le_of_lt hjn) (rBytes.mono HJ11.out HVC.out)
      have hsl := slice_preQ ca nC cc j hjc hccI
      obtain ⟨F, hF⟩ : ∃ F, F = raw.take 40 := ⟨_, rfl⟩
      have hFl : F.length ≤ 40 := by rw [hF, List.length_take]; omega
      obtain ⟨nF, hnF⟩ : ∃ nF, nF = F.length := ⟨_, rfl⟩
      have HFL := Lib.hid hFl
      have HNF := Lib.hid hnF
      have HRT := Lib.hid hrt
      have HTK := Lib.hid htkl
      have HRW : Hid (rBytes.rel J11 [.slice a7 len7 cap7] raw) := Lib.hid (rBytes.mono (Mem.le_trans HJ5.out (Mem.le_trans HJ6.out HJ11.out)) HRAW.out.2)
      have HFW : Hid (∀ (w' : World) (A' : Assn), Sat w w' (sep (kn J11) A') → Calls Tryd.prog 25 #[.slice a7 len7 cap7, .int .i64 40] w' fun e w'' => ∃ a c, e = .returned (.slice a nF c) ∧ Sat w w'' (sep (osl 5 1 a nF c (F.map bv)) (sep (kn J11) A'))) := Lib.hid (by
        intro w' A' h'
        have := few_spec (.slice a7 len7 cap7) raw 40 h' HRW.out (by omega)
        rw [← hF, ← hnF] at this
        exact this)
      clear hF hFl hnF hrt htkl HS30 HW23
      refine wp_region_items rfl (fun _ => True) [.one 0 .p, .one 1 .p, .one 2 .p, .one 3 .p, .one 4 .p, .one 7 .p, .one 9 .p, .grp false [5, 6, 8, 10], .one 11 (.e false), .one 12 (.e false), .one 13 .p] (by kernel_rfl) ?_
      rw [← hwd2]
      clear hwd2
      (repeat (first | (refine I_p (v := ?_) rfl rfl (fun w' => ?_) ?_; rotate_left; (go_simp; with_reducible rfl); simp only [Act.put, List.setIfInBounds_toArray, List.set_cons_zero, List.set_cons_succ]) | (refine I_s (v := ?_) rfl rfl hS0 (fun w' hS => ?_) ?_; rotate_left; ((try dsimp only at hS); go_simp; with_reducible rfl); simp only [Act.put, List.setIfInBounds_toArray, List.set_cons_zero, List.set_cons_succ]) | (refine I_t (v := ?_) rfl rfl ?_ ?_; rotate_left; (go_simp; with_reducible rfl); simp only [Act.put, List.setIfInBounds_toArray, List.set_cons_zero, List.set_cons_succ]) | (refine I_po rfl rfl ?_; simp only [Act.put, List.setIfInBounds_toArray, List.set_cons_zero, List.set_cons_succ]) | (refine I_so rfl rfl hS0 ?_; simp only [Act.put, List.setIfInBounds_toArray, List.set_cons_zero, List.set_cons_succ]) | (refine I_to rfl rfl ?_; simp only [Act.put, List.setIfInBounds_toArray, List.set_cons_zero, List.set_cons_succ])))
      refine wpI_threads (W := w) (A := sep (kn J11) emp) [⟨[5], thF J11 nF F⟩, ⟨[6, 8], thC J11 nC C⟩, ⟨[10], thX x⟩] (fun h => by cases h) (by kernel_rfl) ?_ ?_ ?_
      · intro t ht
        simp only [List.mem_cons, List.not_mem_nil, or_false] at ht
        rcases ht with rfl | rfl | rfl
        · refine ⟨⟨_, rfl, (by intro cs b h; cases h), rfl, fun w' A' h' => .inr ⟨25, #[.slice a7 len7 cap7, .int .i64 40], w', ?_, ?_⟩⟩, (fun k hk => (by cases hk)), fun v => trivial⟩
          · (go_simp; try rfl)
          · refine (HFW.out w' A' h').mono ?_
            rintro e w'' ⟨a, c, rfl, h3⟩
            refine ⟨_, rfl, ?_⟩
            exact fact_ex (a, c) rfl (show Sat w w'' (sep (osl 5 1 a nF c (F.map bv)) A') from h3.p1.tail)
        · refine ⟨⟨_, rfl, (by intro cs b h; cases h), rfl, fun w' A' h' => .inl ⟨.slice (some ⟨w'.heap.size, 0, none⟩) 0 0, w'.alloc (.cells #[] 5), ?_, ?_⟩⟩, (fun k hk => (by simp only [List.mem_cons, List.not_mem_nil, or_false] at hk; subst hk; kernel_rfl)), fun v6 => ⟨⟨_, rfl, (by intro cs b h; cases h), rfl, fun w' A' h' => .inl ?_⟩, (fun k hk => (by cases hk)), fun v8 => trivial⟩⟩
          · (go_simp; try rfl)
          · have h2 := (show Sat w w' (sep (kn J11) A') from h').alloc (.cells #[] 5)
            have h3 := h2.osl_mk 0 0 1 [] rfl (by omega) (by unfold maxLen; omega) rfl rfl
            exact fact_ex w'.heap.size rfl (by simpa only [sep_comm, sep_lcomm, sep_assoc] using h3)
          · obtain ⟨g6, rfl, h2⟩ := ex_fact (show Sat w w' (sep (PA.ex fun g : Nat => sep (fact (v6 = .slice (some ⟨g, 0, none⟩) 0 0)) (sep (kn J11) (osl 5 1 (some ⟨g, 0, none⟩) 0 0 []))) A') from h')
            have h3 : Sat w w' (sep (osl 5 1 (some ⟨g6, 0, none⟩) 0 0 []) (sep (kn J11) A')) := by simpa only [sep_comm, sep_lcomm, sep_assoc] using h2
            refine does_append (.tmp 137) (.tmp 138) rfl rfl h3 rfl (rel_okQ h3.p1 (rBytes.mono HJ11.out HVC.out)) (by omega) (fun a' c' w'' hS => ?_)
            rw [Nat.zero_add] at hS ⊢
            exact fact_ex (a', c') rfl (show Sat w w'' (sep (osl 5 1 a' nC c' (C.map bv)) A') from hS.p1.tail)
        · refine ⟨⟨_, rfl, (by intro cs b h; cases h), rfl, fun w' A' h' => .inl ⟨.slice (some ⟨w'.heap.size, 0, none⟩) 1 1, w'.alloc (.cells #[.int .u8 (x.toNat : Int)] 5), ?_, ?_⟩⟩, (fun k hk => (by cases hk)), fun v => trivial⟩
          · (go_simp; try rfl)
          · have h2 := (show Sat w w' A' from by have := (show Sat w w' (sep emp A') from h'); rwa [emp_sep] at this).alloc (.cells #[.int .u8 (x.toNat : Int)] 5)
            have h3 := h2.osl_mk 1 1 1 [bv x] rfl (by omega) (by unfold maxLen; omega) rfl rfl
            exact fact_ex w'.heap.size rfl h3
      · show Sat w wd2 (sep emp (sep (kn J11) (sep (kn J11) (sep (kn J11) emp))))
        rw [emp_sep]
        exact hd.dup.dup
      · intro dn1 h1 dn2 h2 dn3 h3 w24 h40
        obtain ⟨v5, rfl⟩ := dn_one h1
        obtain ⟨v6, v8, rfl⟩ := dn_two h2
        obtain ⟨v10, rfl⟩ := dn_one h3
        obtain ⟨g10, rfl, h41⟩ := ex_fact (show Sat w w24 (sep (PA.ex fun g : Nat => sep (fact (v10 = .slice (some ⟨g, 0, none⟩) 1 1)) (osl 5 1 (some ⟨g, 0, none⟩) 1 1 [bv x])) (sep (thC J11 nC C [v6, v8]) (sep (thF J11 nF F [v5]) (sep (kn J11) emp)))) from h40)
        obtain ⟨⟨a8, c8⟩, rfl, h42⟩ := ex_fact (show Sat w w24 (sep (PA.ex fun ac : Option Addr × Nat => sep (fact (v8 = .slice ac.1 nC ac.2)) (osl 5 1 ac.1 nC ac.2 (C.map bv))) (sep (osl 5 1 (some ⟨g10, 0, none⟩) 1 1 [bv x]) (sep (thF J11 nF F [v5]) (sep (kn J11) emp)))) from h41.p1)
        obtain ⟨⟨a5f, c5⟩, rfl, h43⟩ := ex_fact (show Sat w w24 (sep (PA.ex fun ac : Option Addr × Nat => sep (fact (v5 = .slice ac.1 nF ac.2)) (osl 5 1 ac.1 nF ac.2 (F.map bv))) (sep (osl 5 1 a8 nC c8 (C.map bv)) (sep (osl 5 1 (some ⟨g10, 0, none⟩) 1 1 [bv x]) (sep (kn J11) emp)))) from h42.p2)
        change wpI _ _ _ _ _ _ ((((Act.put _ (some 136) (.slice a5f nF c5)).put (some 137) v6).put (some 139) (.slice a8 nC c8)).put (some 141) (.slice (some ⟨g10, 0, none⟩) 1 1)) _
        simp only [Act.put, List.setIfInBounds_toArray, List.set_cons_zero, List.set_cons_succ]
        have h44 : Sat w w24 (sep (osl 5 1 a8 nC c8 (C.map bv)) (sep (osl 5 1 (some ⟨g10, 0, none⟩) 1 1 [bv x]) (sep (osl 5 1 a5f nF c5 (F.map bv)) (sep (kn J11) emp)))) := by simpa only [sep_comm, sep_lcomm, sep_assoc] using h43
        have hok := osl_okQ (bs := [x]) (show Sat w w24 (sep (osl 5 1 (some ⟨g10, 0, none⟩) 1 1 [bv x]) _) from h44.p1)
        refine I_e rfl rfl (fun K hK => ?_)
        refine wp_append_osl (.tmp 139) (.tmp 141) 32 rfl 5 1 1 (.int .u8 0) Tryd.underlying32 infoU8w rfl rfl h44 rfl [bv x] hok.len hok.nil hok.src hok.one (by omega) (by unfold maxLen; omega) ?_
        intro a9 c9 w25 h45
        clear h40 h41 h42 h43 h44 hok h1 h2 h3
        have h46 : Sat w w25 (sep (osl 5 1 a9 (nC + 1) c9 ((C ++ [x]).map bv)) (sep (kn J11) (sep (osl 5 1 a5f nF c5 (F.map bv)) emp))) := by
          rw [List.map_append, show [x].map bv = [bv x] from rfl]
          have h47 := (show Sat w w25 (sep (osl 5 1 (some ⟨g10, 0, none⟩) 1 1 [bv x]) (sep (osl 5 1 a9 (nC + 1) c9 (C.map bv ++ [bv x])) (sep (osl 5 1 a5f nF c5 (F.map bv)) (sep (kn J11) emp)))) from h45.p1).forget_osl
          simpa only [sep_comm, sep_lcomm, sep_assoc] using h47
        obtain ⟨J12, hJ12, hvx12, h48⟩ := osl_learnQ h46 (by rw [List.length_append, ← HC.out.2.1]; rfl)
        obtain ⟨J13, hJ13, hvF, h49⟩ := osl_learnQ (show Sat w w25 (sep (osl 5 1 a5f nF c5 (F.map bv)) (sep (kn J12) emp)) from h48.p1) HNF.out
        obtain ⟨q18, hq18⟩ : ∃ z, z = w25.heap.size := ⟨_, rfl⟩
        have h50 := h49.alloc (.cells #[.slice (some ⟨g, 0, none⟩) nC ec, .slice ca j cc, .slice a5f nF c5, .slice a9 (nC + 1) c9] 32)
        obtain ⟨w26, hw26⟩ : ∃ z, z = w25.alloc (.cells #[.slice (some ⟨g, 0, none⟩) nC ec, .slice ca j cc, .slice a5f nF c5, .slice a9 (nC + 1) c9] 32) := ⟨_, rfl⟩
        rw [← hq18, ← hw26] at h50
        obtain ⟨K2, hK2, hb18, h51⟩ := h50.settle.learn
        have hle : Mem.le J11 K2 := Mem.le_trans hJ12 (Mem.le_trans hJ13 hK2)
        have HROW2 : Hid (∀ k, k < 4 → ∃ v l, l.length ≤ 1000000 ∧ rBytes.rel K2 [v] l ∧ ∀ w', Ext K2 w' → w'.cell? ⟨q18, k, none⟩ = some v) := Lib.hid (by
          intro k hk
          have hc := fun (k : Nat) w' (he : Ext K2 w') => prf_cells hb18 he k
          rcases (by omega : k = 0 ∨ k = 1 ∨ k = 2 ∨ k = 3) with rfl | rfl | rfl | rfl
          · exact ⟨_, T, by rw [← HTL.out]; omega, rBytes.mono hle HVT.out, fun w' he => hc 0 w' he⟩
          · exact ⟨_, C.take j, by rw [HTK.out]; omega, rBytes.mono hle HRT.out, fun w' he => hc 1 w' he⟩
          · exact ⟨_, F, by have := HFL.out; omega, rBytes.mono hK2 hvF, fun w' he => hc 2 w' he⟩
          · exact ⟨_, C ++ [x], by rw [List.length_append, ← HC.out.2.1]; simp; omega, rBytes.mono (Mem.le_trans hJ13 hK2) hvx12, fun w' he => hc 3 w' he⟩)
        have HKJ := Lib.hid (Mem.le_trans HJ6.out (Mem.le_trans HJ11.out hle))
        have H51 := Lib.hid h51
        have HW26 := Lib.hid (And.intro hq18 hw26)
        clear h45 h46 hJ12 hvx12 h48 hJ13 hvF h49 hq18 h50 hw26 hK2 hb18 h51 hle hjc hccI hsl HFW HRW HRT HTK HVT HTL HVC HPD HFL HNF
        (refine hK _ _ (fun h => by cases h) ?_; clear hK K; (try simp only [Act.put, List.setIfInBounds_toArray, List.set_cons_zero, List.set_cons_succ]))
        (refine I_e rfl rfl (fun K hK => ?_); go_simp)
        rw [← HW26.out.1, ← HW26.out.2]
        (refine hK _ _ (fun h => by cases h) ?_; clear hK K; (try simp only [Act.put, List.setIfInBounds_toArray, List.set_cons_zero, List.set_cons_succ]))
        (repeat (first | (refine I_p (v := ?_) rfl rfl (fun w' => ?_) ?_; rotate_left; (go_simp; with_reducible rfl); simp only [Act.put, List.setIfInBounds_toArray, List.set_cons_zero, List.set_cons_succ]) | (refine I_s (v := ?_) rfl rfl hS0 (fun w' hS => ?_) ?_; rotate_left; ((try dsimp only at hS); go_simp; with_reducible rfl); simp only [Act.put, List.setIfInBounds_toArray, List.set_cons_zero, List.set_cons_succ]) | (refine I_t (v := ?_) rfl rfl ?_ ?_; rotate_left; (go_simp; with_reducible rfl); simp only [Act.put, List.setIfInBounds_toArray, List.set_cons_zero, List.set_cons_succ]) | (refine I_po rfl rfl ?_; simp only [Act.put, List.setIfInBounds_toArray, List.set_cons_zero, List.set_cons_succ]) | (refine I_so rfl rfl hS0 ?_; simp only [Act.put, List.setIfInBounds_toArray, List.set_cons_zero, List.set_cons_succ]) | (refine I_to rfl rfl ?_; simp only [Act.put, List.setIfInBounds_toArray, List.set_cons_zero, List.set_cons_succ])))
        refine I_nil ?_
        go_wp2_with fail
        go_loopw [30] (fun iv wr => ∃ (k : Nat) (K : Mem), k ≤ 4 ∧ iv = .int .i64 (k : Nat) ∧ Hid (Mem.le K2 K) ∧ Sat w wr (sep (kn K) emp)) (fun iv _ => 4 - (intOf iv).toNat)
        case atStart => exact ⟨0, K2, by omega, rfl, Lib.hid (Mem.le_refl _), H51.out⟩
        case round =>
          clear H51 HW26
          obtain ⟨k, K3, hk, rfl, HK3, hS⟩ := hrel
          by_cases h4 : k = 4
          · subst h4
            have g2 : ¬ ((4 : Nat) : Int) < 4 := by omega
            have HZ := Lib.hid (And.intro (Mem.le_trans HKJ.out HK3.out) hS)
            clear hS
            go_wp2_with fail
            go_roundw
            case rel => exact ⟨i + 1, K3, by omega, by go_num, Lib.hid HZ.out.1, HZ.out.2⟩
            case measure => simp only [intOf]; omega
          · have hk4 : k < 4 := by omega
            have g2 : (k : Int) < 4 := by omega
            obtain ⟨v, l, hll, hrl, hcl⟩ := HROW2.out k hk4
            have f0 := hcl wr (fun b o hb => hS.ext b o (HK3.out b o hb))
            have hd := adecode_spec v l hS (rBytes.mono HK3.out hrl) hll
            obtain ⟨cd, hcd⟩ : ∃ z : Int, z = if decA l = none then 2 else 0 := ⟨_, rfl⟩
            rw [← hcd] at hd
            have HD := Lib.hid hd
            have HCDE := Lib.hid hcd
            have HL := Lib.hid (And.intro hll (And.intro hrl hcl))
            clear hS hll hrl hcl hd hcd
            go_wp2_with fail
            refine HD.out.mono ?_
            rintro e w27 ⟨K4, vd, hK4, rfl, hpd, h60⟩
            obtain ⟨d1', m1', l1', d2', m2', l2', d3', m3', l3', rfl, hm3'⟩ := prfR_form hpd
            obtain ⟨x31, hx31⟩ : ∃ z, z = w27.heap.size := ⟨_, rfl⟩
            have h61 := h60.alloc (.cells #[.slice d1' m1' l1', .slice d2' m2' l2', .slice d3' m3' l3'] 40)
            obtain ⟨w28, hw28⟩ : ∃ z, z = w27.alloc (.cells #[.slice d1' m1' l1', .slice d2' m2' l2', .slice d3' m3' l3'] 40) := ⟨_, rfl⟩
            rw [← hx31, ← hw28] at h61
            obtain ⟨K5, hK5, hb31, h62⟩ := h61.settle.learn
            have hc31 : ∀ w', Ext K5 w' → w'.cell? ⟨x31, 0, none⟩ = some (.slice d1' m1' l1') ∧ w'.cell? ⟨x31, 1, none⟩ = some (.slice d2' m2' l2') ∧ w'.cell? ⟨x31, 2, none⟩ = some (.slice d3' m3' l3') := fun w' he =>
              ⟨cell_of_row w' x31 0 _ _ _ (he _ _ hb31), cell_of_row w' x31 1 _ _ _ (he _ _ hb31), cell_of_row w' x31 2 _ _ _ (he _ _ hb31)⟩
            have HX31 := Lib.hid (And.intro hx31 hw28)
            have HC31 := Lib.hid hc31
            have HK5 := Lib.hid (Mem.le_trans HK3.out (Mem.le_trans hK4 hK5))
            have HM3' := Lib.hid hm3'
            have HPD := Lib.hid (prfR.mono hK5 hpd)
            have hdw := h62.drew
            obtain ⟨wd3, hwd3⟩ : ∃ z, z = w28.drew := ⟨_, rfl⟩
            rw [← hwd3] at hdw
            have HWD3 := Lib.hid hwd3
            clear HD hK4 hpd h60 hx31 h61 hw28 hK5 hb31 h62 hc31 hm3' hwd3 f0
            have hext : ∀ w', Ext K5 w' → w'.cell? ⟨q18, k, none⟩ = some v := fun w' he => HL.out.2.2 w' (fun b o hb => he b o (HK5.out b o hb))
            have HEXT := Lib.hid hext
            have hS0 := hext wd3 hdw.ext
            obtain ⟨y0, y1, y2⟩ := HC31.out wd3 hdw.ext
            clear hext
            go_upto_region 22 with (fail)
            rw [← HX31.out.1, ← HX31.out.2]
            cases hdd : decA l with
            | none =>
              obtain rfl : cd = 2 := by rw [HCDE.out, hdd]; rfl
              have hpd : prfR K5 (.agg #[.slice d1' m1' l1', .slice d2' m2' l2', .slice d3' m3' l3']) ⟨[], [], []⟩ := by have := HPD.out; rw [hdd] at this; exact this
              have HPD' := Lib.hid hpd
              have HBR := Lib.hid (bare_spec d1' d2' d3' m1' m2' m3' l1' l2' l3' hdw)
              clear hdw hdd HPD hpd
              refine wp_region_canon rfl (fun w' => w'.cell? ⟨q18, k, none⟩ = some v) [(0, .p), (1, .p), (2, .p), (3, .p), (4, .p), (5, .p), (6, .t), (8, .p), (7, .e true), (9, .e true), (10, .p), (11, .p), (12, .p), (13, .p), (14, .p), (15, .p), (16, .p), (17, .t), (19, .p), (20, .p), (21, .p), (22, .s), (18, .e true), (23, .e false), (24, .p), (25, .p), (26, .p)] (by kernel_rfl) ?_
              rw [← HWD3.out]
              (repeat (first | (refine C_p (v := ?_) rfl rfl (fun w' => ?_) ?_; rotate_left; (go_simp; with_reducible rfl); simp only [Act.put, List.setIfInBounds_toArray, List.set_cons_zero, List.set_cons_succ]) | (refine C_s (v := ?_) rfl rfl hS0 (fun w' hS => ?_) ?_; rotate_left; ((try dsimp only at hS); go_simp; with_reducible rfl); simp only [Act.put, List.setIfInBounds_toArray, List.set_cons_zero, List.set_cons_succ]) | (refine C_t (v := ?_) rfl rfl ?_ ?_; rotate_left; (go_simp; with_reducible rfl); simp only [Act.put, List.setIfInBounds_toArray, List.set_cons_zero, List.set_cons_succ]) | (refine C_po rfl rfl ?_; simp only [Act.put, List.setIfInBounds_toArray, List.set_cons_zero, List.set_cons_succ]) | (refine C_so rfl rfl hS0 ?_; simp only [Act.put, List.setIfInBounds_toArray, List.set_cons_zero, List.set_cons_succ]) | (refine C_to rfl rfl ?_; simp only [Act.put, List.setIfInBounds_toArray, List.set_cons_zero, List.set_cons_succ])))
              (refine C_e rfl rfl (fun K hK => ?_); go_simp)
              refine HBR.out.mono ?_
              rintro e w30 ⟨rfl, h63⟩
              have hS1 := HEXT.out w30 h63.ext
              have hsp := sameProof_spec _ _ ⟨[], [], []⟩ ⟨[], [], []⟩ h63 HPD'.out (noP_R K5)
              rw [decide_eq_true rfl] at hsp
              have HSP := Lib.hid hsp
              clear HBR h63 hsp y0 y1 y2 hS0
              (refine hK _ _ (fun _ => hS1) ?_; clear hK K; (try simp only [Act.put, List.setIfInBounds_toArray, List.set_cons_zero, List.set_cons_succ]))
              clear hS1
              (refine C_e rfl rfl (fun K hK => ?_); go_simp)
              refine HSP.out.mono ?_
              rintro e w31 ⟨rfl, h64⟩
              have hS0 := HEXT.out w31 h64.ext
              have H64 := Lib.hid h64
              clear HSP h64
              (refine hK _ _ (fun _ => hS0) ?_; clear hK K; (try simp only [Act.put, List.setIfInBounds_toArray, List.set_cons_zero, List.set_cons_succ]))
              (repeat (first | (refine C_p (v := ?_) rfl rfl (fun w' => ?_) ?_; rotate_left; (go_simp; with_reducible rfl); simp only [Act.put, List.setIfInBounds_toArray, List.set_cons_zero, List.set_cons_succ]) | (refine C_s (v := ?_) rfl rfl hS0 (fun w' hS => ?_) ?_; rotate_left; ((try dsimp only at hS); go_simp; with_reducible rfl); simp only [Act.put, List.setIfInBounds_toArray, List.set_cons_zero, List.set_cons_succ]) | (refine C_t (v := ?_) rfl rfl ?_ ?_; rotate_left; (go_simp; with_reducible rfl); simp only [Act.put, List.setIfInBounds_toArray, List.set_cons_zero, List.set_cons_succ]) | (refine C_po rfl rfl ?_; simp only [Act.put, List.setIfInBounds_toArray, List.set_cons_zero, List.set_cons_succ]) | (refine C_so rfl rfl hS0 ?_; simp only [Act.put, List.setIfInBounds_toArray, List.set_cons_zero, List.set_cons_succ]) | (refine C_to rfl rfl ?_; simp only [Act.put, List.setIfInBounds_toArray, List.set_cons_zero, List.set_cons_succ])))
              (refine C_eo rfl rfl (fun h => by first | (cases h; done) | exact hS0) ?_; simp only [Act.put, List.setIfInBounds_toArray, List.set_cons_zero, List.set_cons_succ])
              (refine C_eo rfl rfl (fun h => by first | (cases h; done) | exact hS0) ?_; simp only [Act.put, List.setIfInBounds_toArray, List.set_cons_zero, List.set_cons_succ])
              (repeat (first | (refine C_p (v := ?_) rfl rfl (fun w' => ?_) ?_; rotate_left; (go_simp; with_reducible rfl); simp only [Act.put, List.setIfInBounds_toArray, List.set_cons_zero, List.set_cons_succ]) | (refine C_s (v := ?_) rfl rfl hS0 (fun w' hS => ?_) ?_; rotate_left; ((try dsimp only at hS); go_simp; with_reducible rfl); simp only [Act.put, List.setIfInBounds_toArray, List.set_cons_zero, List.set_cons_succ]) | (refine C_t (v := ?_) rfl rfl ?_ ?_; rotate_left; (go_simp; with_reducible rfl); simp only [Act.put, List.setIfInBounds_toArray, List.set_cons_zero, List.set_cons_succ]) | (refine C_po rfl rfl ?_; simp only [Act.put, List.setIfInBounds_toArray, List.set_cons_zero, List.set_cons_succ]) | (refine C_so rfl rfl hS0 ?_; simp only [Act.put, List.setIfInBounds_toArray, List.set_cons_zero, List.set_cons_succ]) | (refine C_to rfl rfl ?_; simp only [Act.put, List.setIfInBounds_toArray, List.set_cons_zero, List.set_cons_succ])))
              refine C_nil ?_
              clear hS0
              go_wp2_with fail
              go_roundw
              case rel => exact ⟨k + 1, K5, by omega, by go_num, Lib.hid HK5.out, H64.out⟩
              case measure => simp only [intOf]; omega
            | some pd =>
              obtain rfl : cd = 0 := by rw [HCDE.out, hdd]; rfl
              have hpd : prfR K5 (.agg #[.slice d1' m1' l1', .slice d2' m2' l2', .slice d3' m3' l3']) pd := by have := HPD.out; rw [hdd] at this; exact this
              obtain ⟨hen, hpo⟩ := decA_back hdd HL.out.1
              have he := aencode_spec _ pd hdw hpd hpo
              rw [hen] at he
              obtain ⟨nl', hnl'⟩ : ∃ z, z = l.length := ⟨_, rfl⟩
              rw [← hnl'] at he
              have HE := Lib.hid he
              have HNL := Lib.hid hnl'
              clear hdw hdd HPD hpd hen hpo he hnl'
              refine wp_region_canon rfl (fun w' => w'.cell? ⟨q18, k, none⟩ = some v) [(0, .p), (1, .p), (2, .p), (3, .p), (4, .p), (5, .p), (6, .t), (8, .p), (7, .e true), (9, .e true), (10, .p), (11, .p), (12, .p), (13, .p), (14, .p), (15, .p), (16, .p), (17, .t), (19, .p), (20, .p), (21, .p), (22, .s), (18, .e true), (23, .e false), (24, .p), (25, .p), (26, .p)] (by kernel_rfl) ?_
              rw [← HWD3.out]
              (repeat (first | (refine C_p (v := ?_) rfl rfl (fun w' => ?_) ?_; rotate_left; (go_simp; with_reducible rfl); simp only [Act.put, List.setIfInBounds_toArray, List.set_cons_zero, List.set_cons_succ]) | (refine C_s (v := ?_) rfl rfl hS0 (fun w' hS => ?_) ?_; rotate_left; ((try dsimp only at hS); go_simp; with_reducible rfl); simp only [Act.put, List.setIfInBounds_toArray, List.set_cons_zero, List.set_cons_succ]) | (refine C_t (v := ?_) rfl rfl ?_ ?_; rotate_left; (go_simp; with_reducible rfl); simp only [Act.put, List.setIfInBounds_toArray, List.set_cons_zero, List.set_cons_succ]) | (refine C_po rfl rfl ?_; simp only [Act.put, List.setIfInBounds_toArray, List.set_cons_zero, List.set_cons_succ]) | (refine C_so rfl rfl hS0 ?_; simp only [Act.put, List.setIfInBounds_toArray, List.set_cons_zero, List.set_cons_succ]) | (refine C_to rfl rfl ?_; simp only [Act.put, List.setIfInBounds_toArray, List.set_cons_zero, List.set_cons_succ])))
              (refine C_eo rfl rfl (fun h => by first | (cases h; done) | exact hS0) ?_; simp only [Act.put, List.setIfInBounds_toArray, List.set_cons_zero, List.set_cons_succ])
              (refine C_eo rfl rfl (fun h => by first | (cases h; done) | exact hS0) ?_; simp only [Act.put, List.setIfInBounds_toArray, List.set_cons_zero, List.set_cons_succ])
              (repeat (first | (refine C_p (v := ?_) rfl rfl (fun w' => ?_) ?_; rotate_left; (go_simp; with_reducible rfl); simp only [Act.put, List.setIfInBounds_toArray, List.set_cons_zero, List.set_cons_succ]) | (refine C_s (v := ?_) rfl rfl hS0 (fun w' hS => ?_) ?_; rotate_left; ((try dsimp only at hS); go_simp; with_reducible rfl); simp only [Act.put, List.setIfInBounds_toArray, List.set_cons_zero, List.set_cons_succ]) | (refine C_t (v := ?_) rfl rfl ?_ ?_; rotate_left; (go_simp; with_reducible rfl); simp only [Act.put, List.setIfInBounds_toArray, List.set_cons_zero, List.set_cons_succ]) | (refine C_po rfl rfl ?_; simp only [Act.put, List.setIfInBounds_toArray, List.set_cons_zero, List.set_cons_succ]) | (refine C_so rfl rfl hS0 ?_; simp only [Act.put, List.setIfInBounds_toArray, List.set_cons_zero, List.set_cons_succ]) | (refine C_to rfl rfl ?_; simp only [Act.put, List.setIfInBounds_toArray, List.set_cons_zero, List.set_cons_succ])))
              (refine C_e rfl rfl (fun K hK => ?_); go_simp)
              refine HE.out.mono ?_
              rintro e w30 ⟨xa, xc, rfl, h63⟩
              obtain ⟨K6, hK6, hvl, h64⟩ := osl_learnQ h63 HNL.out
              have hS1 := HEXT.out w30 (fun b o hb => h64.ext b o (hK6 b o hb))
              have hsb := sameBytes_kn _ v l l h64 hvl (rBytes.mono (Mem.le_trans HK5.out hK6) HL.out.2.1)
              rw [decide_eq_true rfl] at hsb
              have HSB := Lib.hid hsb
              have HK6 := Lib.hid (Mem.le_trans HK5.out hK6)
              clear HE h63 hK6 hvl h64 hsb y0 y1 y2 hS0
              (refine hK _ _ (fun _ => hS1) ?_; clear hK K; (try simp only [Act.put, List.setIfInBounds_toArray, List.set_cons_zero, List.set_cons_succ]))
              clear hS1
              (refine C_e rfl rfl (fun K hK => ?_); go_simp)
              refine HSB.out.mono ?_
              rintro e w31 ⟨rfl, h65⟩
              have H65 := Lib.hid h65
              clear HSB h65
              (refine hK _ _ (fun h => by cases h) ?_; clear hK K; (try simp only [Act.put, List.setIfInBounds_toArray, List.set_cons_zero, List.set_cons_succ]))
              (repeat (first | (refine C_p (v := ?_) rfl rfl (fun w' => ?_) ?_; rotate_left; (go_simp; with_reducible rfl); simp only [Act.put, List.setIfInBounds_toArray, List.set_cons_zero, List.set_cons_succ]) | (refine C_s (v := ?_) rfl rfl hS0 (fun w' hS => ?_) ?_; rotate_left; ((try dsimp only at hS); go_simp; with_reducible rfl); simp only [Act.put, List.setIfInBounds_toArray, List.set_cons_zero, List.set_cons_succ]) | (refine C_t (v := ?_) rfl rfl ?_ ?_; rotate_left; (go_simp; with_reducible rfl); simp only [Act.put, List.setIfInBounds_toArray, List.set_cons_zero, List.set_cons_succ]) | (refine C_po rfl rfl ?_; simp only [Act.put, List.setIfInBounds_toArray, List.set_cons_zero, List.set_cons_succ]) | (refine C_so rfl rfl hS0 ?_; simp only [Act.put, List.setIfInBounds_toArray, List.set_cons_zero, List.set_cons_succ]) | (refine C_to rfl rfl ?_; simp only [Act.put, List.setIfInBounds_toArray, List.set_cons_zero, List.set_cons_succ])))
              refine C_nil ?_
              go_wp2_with fail
              go_roundw
              case rel => exact ⟨k + 1, K6, by omega, by go_num, Lib.hid HK6.out, H65.out⟩
              case measure => simp only [intOf]; omega
end Go.Proofs.YtcmjbjlliehdiaaDoor
