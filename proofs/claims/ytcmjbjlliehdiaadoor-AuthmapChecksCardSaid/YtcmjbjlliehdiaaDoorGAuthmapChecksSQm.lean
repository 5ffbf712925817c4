/- AuthmapChecks, the walk. -/
import Derived.Test.YtcmjbjlliehdiaaDoorGAuthmapChecks49
import Derived.Test.YtcmjbjlliehdiaaDoorGAuthmapChecks20
import Derived.Deep.DeepCutAuto
namespace Go.Proofs.YtcmjbjlliehdiaaDoor
open Go.RowKit PA
attribute [local go_sem] Oper.semAt_some
theorem wrap_u8C (x : Int) : ∃ y : UInt8, IntKind.u8.wrap x = (y.toNat : Int) := by
  refine ⟨UInt8.ofNat (x % 256).toNat, ?_⟩
  rw [UInt8.toNat_ofNat', Nat.mod_eq_of_lt (by omega)]
  have : IntKind.u8.wrap x = x % 256 := by unfold IntKind.wrap; rfl
  rw [this]; omega
theorem noB (I : Mem) : rBytes.rel I [.slice none 0 0] [] := bytes_rel.2 ⟨none, 0, rfl, ⟨Nat.le_refl _, Nat.zero_le _, fun _ => rfl⟩, .inl rfl⟩
theorem pair_store {W w : World} {A : Assn} {E : Nat} {a : Option Addr} {n c : Nat} {xs : List Value} (h : Sat W w (sep (osl E 2 a n c xs) A)) (i : Nat) (hi : i + 1 < xs.length) (v0 v1 : Value) :
    ∃ (g : Nat) (u0 u1 : Value), a = some ⟨g, 0, none⟩ ∧ w.cell? ⟨g, i, none⟩ = some u0 ∧ w.frozen? ⟨g, i, none⟩ = false ∧ (w.setCell ⟨g, i, none⟩ v0).cell? ⟨g, i + 1, none⟩ = some u1 ∧ (w.setCell ⟨g, i, none⟩ v0).frozen? ⟨g, i + 1, none⟩ = false ∧
      Sat W ((w.setCell ⟨g, i, none⟩ v0).setCell ⟨g, i + 1, none⟩ v1) (sep (osl E 2 a n c ((xs.set i v0).set (i + 1) v1)) A) := by
  obtain ⟨g, rfl, c0, f0, h1⟩ := osl_setKs h i (by omega) v0
  obtain ⟨g2, e2, c1, f1, h2⟩ := osl_setKs h1 (i + 1) (by rw [List.length_set]; exact hi) v1
  cases e2
  exact ⟨_, _, _, rfl, c0, f0, c1, f1, h2⟩
def rowC (J : Mem) (q : Nat) (i : Nat) : Prop := ∃ a1 n1 c1 a2 n2 c2 a3 n3 c3 p, PrfS p ∧ prfR J (.agg #[.slice a1 n1 c1, .slice a2 n2 c2, .slice a3 n3 c3]) p ∧
  ∀ w', Ext J w' → w'.cell? ⟨q, i * 3, none⟩ = some (.slice a1 n1 c1) ∧ w'.cell? ⟨q, i * 3 + 1, none⟩ = some (.slice a2 n2 c2) ∧ w'.cell? ⟨q, i * 3 + 2, none⟩ = some (.slice a3 n3 c3)
def lstC (J : Mem) (q : Nat) (i : Nat) : Prop := ∃ a n c PL, PL.length ≤ 100 ∧ (rPairQ.slice 2).rel J [.slice a n c] PL ∧ ∀ w', Ext J w' → w'.cell? ⟨q, i, none⟩ = some (.slice a n c)
set_option maxRecDepth 100000 in
set_option maxHeartbeats 16000000 in
theorem authmapChecks_walk (a0 : Option Addr) (len0 cap0 : Nat) (z0 : List Int) (a1 a2 a3 a4 a5 : Int) (w : World) (hW : WholeOK w)
    (w0 : IsArg w a0 len0 cap0 z0) (w1 : (Lit.int .i64 a1).wf = true) (w2 : (Lit.int .i64 a2).wf = true) (w3 : (Lit.int .i64 a3).wf = true) (w4 : (Lit.int .i64 a4).wf = true) (w5 : (Lit.int .u64 a5).wf = true) :
    Calls Tryd.prog 6 #[.slice a0 len0 cap0, .int .i64 a1, .int .i64 a2, .int .i64 a3, .int .i64 a4, .int .u64 a5] w fun e w' => e = .returned (.bool true) ∧ Below w.heap.size w w' := by
  obtain ⟨ns, hns, hr0, h64⟩ := argI w0
  obtain ⟨hh, rfl⟩ : ∃ hh : Nat, a5 = (hh : Int) := ⟨a5.toNat, by have := (bounds_u64 w5).1; omega⟩
  have hh64 : hh < 18446744073709551616 := by have := (bounds_u64 w5).2; omega
  have HM1 := Lib.hid (made_kn a0 len0 cap0 ns 12 (by omega) hns h64 hr0 (Sat.startKn w))
  have HI := Lib.hid (And.intro (i64_of_wf w3) (And.intro (i64_of_wf w4) hh64))
  have HW := Lib.hid hW
  have hb1 := keyQ_range a1
  have hb2 := keyQ_range a2
  obtain ⟨k1, hk1⟩ : ∃ z, z = keyQ a1 := ⟨_, rfl⟩
  obtain ⟨k2, hk2⟩ : ∃ z, z = keyQ a2 := ⟨_, rfl⟩
  have HK1 := Lib.hid (fun (w' : World) (A : Assn) (h : Sat w w' A) => qkey_spec a1 (i64_of_wf w1) h)
  have HK2 := Lib.hid (fun (w' : World) (A : Assn) (h : Sat w w' A) => qkey_spec a2 (i64_of_wf w2) h)
  rw [← hk1] at HK1 hb1
  rw [← hk2] at HK2 hb2
  obtain ⟨lo, hlo⟩ : ∃ z, z = min k1 k2 := ⟨_, rfl⟩
  obtain ⟨hi, hhi⟩ : ∃ z, z = max k1 k2 := ⟨_, rfl⟩
  have elo : min k1 k2 = lo := hlo.symm
  have ehi : max k1 k2 = hi := hhi.symm
  have HBB := Lib.hid (show 0 ≤ lo ∧ lo ≤ hi ∧ hi ≤ 4095 by omega)
  clear hW w0 w1 w2 w3 w4 w5 hns hr0 h64 hb1 hb2 hk1 hk2 hlo hhi hh64
  go_enter Tryd.func6, Tryd.ntmps6
  go_wp2_with fail
  refine HM1.out.mono ?_
  rintro e w2 ⟨q1, J1, pa, pc, L, rfl, -, hLA, hLl, hLk, hJ1, hqR, -, -, h2⟩
  have HKA := Lib.hid (HK1.out w2 _ h2)
  have HL := Lib.hid (And.intro hLA (And.intro hLl (And.intro (show ∀ y ∈ L, y.2.length ≤ 65536 from fun y hy => by have := (hLk y hy).2; omega) (And.intro hqR hJ1))))
  clear HM1 h2 hLA hLl hLk hJ1 hqR
  go_wp2_with fail
  refine HKA.out.mono ?_
  rintro e w3 ⟨rfl, h3⟩
  have HKB := Lib.hid (HK2.out w3 _ h3)
  clear HKA h3
  go_wp2_with fail
  refine HKB.out.mono ?_
  rintro e w4 ⟨rfl, h4⟩
  have HKC := Lib.hid (HK1.out w4 _ h4)
  clear HKB h4
  go_wp2_with fail
  refine HKC.out.mono ?_
  rintro e w5 ⟨rfl, h5⟩
  have HKD := Lib.hid (HK2.out w5 _ h5)
  clear HKC h5 HK1 HK2
  go_wp2_with fail
  refine HKD.out.mono ?_
  rintro e w6 ⟨rfl, h6⟩
  have HR := Lib.hid (qrange_ok (qv_kn w q1 L) HL.out.1 (by have := HL.out.2.1; omega) HL.out.2.2.1 lo hi HBB.out (show Sat w w6 (sep (qmA q1 L) (sep (kn J1) emp)) from h6.tell HL.out.2.2.2.1))
  clear HKD h6
  go_wp2_with fail
  refine HR.out.mono ?_
  rintro e w7 ⟨ra, rn, rc, la, nl, lc, ta, nt, tc, sa, ns', sc, J2, rfl, hrn, hJ2, hrr, hpr, h7⟩
  obtain ⟨x1, hx1⟩ : ∃ x1, x1 = w7.heap.size := ⟨_, rfl⟩
  obtain ⟨w8, hw8⟩ : ∃ w8, w8 = w7.alloc (.cells #[.slice la nl lc, .slice ta nt tc, .slice sa ns' sc] 49) := ⟨_, rfl⟩
  have h8 := h7.drop.alloc (.cells #[.slice la nl lc, .slice ta nt tc, .slice sa ns' sc] 49)
  rw [← hx1, ← hw8] at h8
  obtain ⟨J3, hJ3, hbx, h9⟩ := h8.settle.learn
  have HQ1 := Lib.hid (And.intro hx1 hw8)
  have hsm := rngP_small (lkP L) lo hi
  have hps := rngP_S (lkP L) lo hi
  have hfl := filtP_len lo hi L
  obtain ⟨p, hp⟩ : ∃ z, z = rngP (lkP L) lo hi := ⟨_, rfl⟩
  obtain ⟨PL, hPL⟩ : ∃ z, z = filtP lo hi L := ⟨_, rfl⟩
  rw [← hp] at hpr hsm hps
  rw [← hPL] at hrn hrr hfl
  have hroot := qroot_spec (V := qmA q1 L) (qv_kn w q1 L) HL.out.1 (by have := HL.out.2.1; omega) HL.out.2.2.1 (show Sat w w8 (sep (qmA q1 L) (sep (kn J3) emp)) from h9.tell (HL.out.2.2.2.1.mono (Mem.le_trans hJ2 hJ3)))
  obtain ⟨rt, hrt⟩ : ∃ z, z = rootN (lkP L) := ⟨_, rfl⟩
  rw [← hrt] at hroot
  have hrt64 : rt < 18446744073709551616 := by
    rw [hrt]; unfold rootN
    cases hb : hbN (lkP L) 12 0 with
    | none => decide
    | some y => exact hbN_lt _ _ _ y hb
  have HRO := Lib.hid hroot
  have HP := Lib.hid (And.intro hsm (And.intro hps (And.intro (prfR.mono hJ3 hpr) (And.intro hrn (And.intro ((rPairQ.slice 2).mono hJ3 hrr) (And.intro (show PL.length ≤ 12 by have := HL.out.2.1; omega) hrt64))))))
  have HJ3 := Lib.hid (Mem.le_trans HL.out.2.2.2.2 (Mem.le_trans hJ2 hJ3))
  have hcx : ∀ w', Ext J3 w' → w'.cell? ⟨x1, 0, none⟩ = some (.slice la nl lc) ∧ w'.cell? ⟨x1, 1, none⟩ = some (.slice ta nt tc) ∧ w'.cell? ⟨x1, 2, none⟩ = some (.slice sa ns' sc) := fun w' he =>
    ⟨cell_of_row w' x1 0 _ _ _ (he _ _ hbx), cell_of_row w' x1 1 _ _ _ (he _ _ hbx), cell_of_row w' x1 2 _ _ _ (he _ _ hbx)⟩
  have HCX := Lib.hid hcx
  clear HR h7 h8 h9 hx1 hw8 hp hPL hJ2 hJ3 hsm hps hpr hrn hrr hfl hroot hrt hrt64 hbx hcx
  go_upto_region 5 with (fail)
  rw [← HQ1.out.1, ← HQ1.out.2]
  go_wp2_with fail
  refine HRO.out.mono ?_
  rintro e w9 ⟨rfl, h9⟩
  have hd : Sat w w9.drew (sep (kn J3) emp) := h9.drop.drew
  obtain ⟨wd, hwd⟩ : ∃ z, z = w9.drew := ⟨_, rfl⟩
  rw [← hwd] at hd
  have hS0 := HCX.out wd hd.ext
  have hbent := fun (w' : World) (J : Mem) (hle : Mem.le J3 J) (h : Sat w w' (sep (kn J) emp)) (how : Int) (x : Nat) (hhow : I64Q how) (hx : x < 18446744073709551616) =>
    bent_spec (.agg #[.slice la nl lc, .slice ta nt tc, .slice sa ns' sc]) p how a4 x h (prfR.mono hle HP.out.2.2.1) HP.out.2.1.ok hhow HI.out.2.1 hx
  have HBE := Lib.hid hbent
  have HB1 := Lib.hid (hbent wd J3 (Mem.le_refl _) hd a3 hh HI.out.1 HI.out.2.2)
  have HWD := Lib.hid hwd
  clear HRO h9 hd hbent hwd
  go_wp2_with fail
  refine wp_region_canon rfl (fun w' => w'.cell? ⟨x1, 0, none⟩ = some (.slice la nl lc) ∧ w'.cell? ⟨x1, 1, none⟩ = some (.slice ta nt tc) ∧ w'.cell? ⟨x1, 2, none⟩ = some (.slice sa ns' sc)) [(0, .s), (1, .t), (2, .p), (3, .p), (4, .p), (6, .s), (7, .p), (9, .p), (10, .p), (12, .s), (13, .p), (5, .e true), (8, .e true), (11, .e true), (14, .e true), (15, .e false), (16, .p)] (by kernel_rfl) ?_
  rw [← HWD.out]
  obtain ⟨e0, e1, e2⟩ := id hS0
  (repeat ((first | (refine C_p (v := ?_) rfl rfl (fun w' => ?_) ?_; rotate_left; (go_simp; with_reducible rfl)) | (refine C_s (v := ?_) rfl rfl hS0 (fun w' hS => ?_) ?_; rotate_left; ((try dsimp only at hS); go_simp; with_reducible rfl)) | (refine C_t (v := ?_) rfl rfl ?_ ?_; rotate_left; (go_simp; with_reducible rfl)) | (refine C_po rfl rfl ?_) | (refine C_so rfl rfl hS0 ?_) | (refine C_to rfl rfl ?_)); simp only [Act.put, List.setIfInBounds_toArray, List.set_cons_zero, List.set_cons_succ]))
  (refine C_e rfl rfl (fun K hK => ?_); go_simp)
  refine HB1.out.mono ?_
  rintro e w10 ⟨J4, vb1, hJ4, rfl, hpb1, h10⟩
  have hS1 := HCX.out w10 (fun b o hb => h10.ext b o (hJ4 b o hb))
  have HB2 := Lib.hid (HBE.out w10 J4 hJ4 h10 4 1 ⟨by omega, by omega⟩ (by omega))
  have HJ4 := Lib.hid hJ4
  have HPB1 := Lib.hid hpb1
  clear HB1 h10 hJ4 hpb1 e0 e1 e2 hS0
  (refine hK _ _ (fun _ => hS1) ?_; clear hK K; (try simp only [Act.put, List.setIfInBounds_toArray, List.set_cons_zero, List.set_cons_succ]))
  clear hS1
  (refine C_e rfl rfl (fun K hK => ?_); go_simp)
  refine HB2.out.mono ?_
  rintro e w11 ⟨J5, vb2, hJ5, rfl, hpb2, h11⟩
  have hS1 := HCX.out w11 (fun b o hb => h11.ext b o (hJ5 b o (HJ4.out b o hb)))
  have hsm := HP.out.1
  obtain ⟨B1, hB1⟩ : ∃ z, z = bentP p (aroundI a3 8).toNat (aroundI a4 p.l.length).toNat (aroundI a4 p.r.length).toNat (aroundI a4 p.s.length).toNat hh := ⟨_, rfl⟩
  have hB1s : PrfS B1 := by rw [hB1]; exact bentP_S ⟨by omega, by omega, by omega⟩ HP.out.2.1 _ _ _ _ _ HI.out.2.2
  rw [← hB1] at HPB1
  obtain ⟨B0, hB0⟩ : ∃ z, z = bentP p (aroundI 4 8).toNat (aroundI a4 p.l.length).toNat (aroundI a4 p.r.length).toNat (aroundI a4 p.s.length).toNat 1 := ⟨_, rfl⟩
  have hB0s : PrfS B0 := by rw [hB0]; exact bentP_S ⟨by omega, by omega, by omega⟩ HP.out.2.1 _ _ _ _ _ (by omega)
  have hB0l : B0.l.length ≤ 4900 ∧ B0.r.length ≤ 4900 ∧ B0.s.length ≤ 4900 := by
    have e : B0 = ⟨p.l, p.r, p.s.set (aroundI a4 p.s.length).toNat (UInt8.ofNat 1)⟩ := by rw [hB0]; rfl
    rw [e]
    refine ⟨by dsimp only; omega, by dsimp only; omega, ?_⟩
    dsimp only
    rw [List.length_set]; omega
  rw [← hB0] at hpb2
  have HB3 := Lib.hid (bent_spec vb2 B0 2 a4 hh h11 hpb2 hB0s.ok ⟨by omega, by omega⟩ HI.out.2.1 HI.out.2.2)
  have HJ5 := Lib.hid (Mem.le_trans HJ4.out hJ5)
  have HPB1' := Lib.hid (prfR.mono hJ5 HPB1.out)
  have HBS := Lib.hid (And.intro hB1s (And.intro hB0s hB0l))
  clear HB2 h11 hJ5 hpb2 hsm hB1 hB1s hB0 hB0s hB0l HPB1
  (refine hK _ _ (fun _ => hS1) ?_; clear hK K; (try simp only [Act.put, List.setIfInBounds_toArray, List.set_cons_zero, List.set_cons_succ]))
  clear hS1
  (refine C_e rfl rfl (fun K hK => ?_); go_simp)
  refine HB3.out.mono ?_
  rintro e w12 ⟨J6, vb3, hJ6, rfl, hpb3, h12⟩
  have hS1 := HCX.out w12 (fun b o hb => h12.ext b o (hJ6 b o (HJ5.out b o hb)))
  obtain ⟨B2, hB2⟩ : ∃ z, z = bentP B0 (aroundI 2 8).toNat (aroundI a4 B0.l.length).toNat (aroundI a4 B0.r.length).toNat (aroundI a4 B0.s.length).toNat hh := ⟨_, rfl⟩
  have hB2s : PrfS B2 := by rw [hB2]; exact bentP_S HBS.out.2.2 HBS.out.2.1 _ _ _ _ _ HI.out.2.2
  rw [← hB2] at hpb3
  have HJ6 := Lib.hid (Mem.le_trans HJ5.out hJ6)
  have HB4 := Lib.hid (HBE.out w12 J6 HJ6.out h12 0 0 ⟨by omega, by omega⟩ (by omega))
  have HPB1 := Lib.hid (prfR.mono hJ6 HPB1'.out)
  have HPB3 := Lib.hid (And.intro hpb3 hB2s)
  clear HB3 h12 hJ6 hpb3 hB2 hB2s HPB1'
  (refine hK _ _ (fun _ => hS1) ?_; clear hK K; (try simp only [Act.put, List.setIfInBounds_toArray, List.set_cons_zero, List.set_cons_succ]))
  clear hS1
  (refine C_e rfl rfl (fun K hK => ?_); go_simp)
  refine HB4.out.mono ?_
  rintro e w13 ⟨J7, vb4, hJ7, rfl, hpb4, h13⟩
  have hS1 := HCX.out w13 (fun b o hb => h13.ext b o (hJ7 b o (HJ6.out b o hb)))
  have hsm := HP.out.1
  obtain ⟨B3, hB3⟩ : ∃ z, z = bentP p (aroundI 0 8).toNat (aroundI a4 p.l.length).toNat (aroundI a4 p.r.length).toNat (aroundI a4 p.s.length).toNat 0 := ⟨_, rfl⟩
  have hB3s : PrfS B3 := by rw [hB3]; exact bentP_S ⟨by omega, by omega, by omega⟩ HP.out.2.1 _ _ _ _ _ (by omega)
  rw [← hB3] at hpb4
  obtain ⟨d1, m1, f1, d2, m2, f2, d3, m3, f3, rfl, -⟩ := prfR_form HPB1.out
  obtain ⟨d4, m4, f4, d5, m5, f5, d6, m6, f6, rfl, -⟩ := prfR_form HPB3.out.1
  obtain ⟨d7, m7, f7, d8, m8, f8, d9, m9, f9, rfl, -⟩ := prfR_form hpb4
  have h14 := h13.alloc (.cells #[.slice la nl lc, .slice ta nt tc, .slice sa ns' sc, .slice d1 m1 f1, .slice d2 m2 f2, .slice d3 m3 f3, .slice d4 m4 f4, .slice d5 m5 f5, .slice d6 m6 f6, .slice d7 m7 f7, .slice d8 m8 f8, .slice d9 m9 f9] 49)
  obtain ⟨q20, hq20⟩ : ∃ q, q = w13.heap.size := ⟨_, rfl⟩
  obtain ⟨w14, hw14⟩ : ∃ z, z = w13.alloc (.cells #[.slice la nl lc, .slice ta nt tc, .slice sa ns' sc, .slice d1 m1 f1, .slice d2 m2 f2, .slice d3 m3 f3, .slice d4 m4 f4, .slice d5 m5 f5, .slice d6 m6 f6, .slice d7 m7 f7, .slice d8 m8 f8, .slice d9 m9 f9] 49) := ⟨_, rfl⟩
  rw [← hq20, ← hw14] at h14
  obtain ⟨J8, hJ8, hbq, h15⟩ := h14.settle.learn
  have HROW : Hid (∀ i, i < 4 → rowC J8 q20 i) := Lib.hid (by
    intro i hi
    have hc := fun (k : Nat) w' (he : Ext J8 w') => prf_cells hbq he k
    rcases (by omega : i = 0 ∨ i = 1 ∨ i = 2 ∨ i = 3) with rfl | rfl | rfl | rfl
    · exact ⟨_, _, _, _, _, _, _, _, _, p, HP.out.2.1, prfR.mono (Mem.le_trans HJ6.out (Mem.le_trans hJ7 hJ8)) HP.out.2.2.1, fun w' he => ⟨hc 0 w' he, hc 1 w' he, hc 2 w' he⟩⟩
    · exact ⟨_, _, _, _, _, _, _, _, _, B1, HBS.out.1, prfR.mono (Mem.le_trans hJ7 hJ8) HPB1.out, fun w' he => ⟨hc 3 w' he, hc 4 w' he, hc 5 w' he⟩⟩
    · exact ⟨_, _, _, _, _, _, _, _, _, B2, HPB3.out.2, prfR.mono (Mem.le_trans hJ7 hJ8) HPB3.out.1, fun w' he => ⟨hc 6 w' he, hc 7 w' he, hc 8 w' he⟩⟩
    · exact ⟨_, _, _, _, _, _, _, _, _, B3, hB3s, prfR.mono hJ8 hpb4, fun w' he => ⟨hc 9 w' he, hc 10 w' he, hc 11 w' he⟩⟩)
  have HJ8 := Lib.hid (Mem.le_trans HJ6.out (Mem.le_trans hJ7 hJ8))
  have HQ20 := Lib.hid (And.intro hq20 hw14)
  have H15 := Lib.hid h15
  clear HB4 h13 h14 h15 hJ7 hJ8 hbq hpb4 hB3 hB3s hsm hq20 hw14 HPB1 HPB3 HBS HJ4 HJ5 HJ6 HBE
  (refine hK _ _ (fun _ => hS1) ?_; clear hK K; (try simp only [Act.put, List.setIfInBounds_toArray, List.set_cons_zero, List.set_cons_succ]))
  clear hS1
  (refine C_e rfl rfl (fun K hK => ?_); go_simp)
  rw [← HQ20.out.1, ← HQ20.out.2]
  (refine hK _ _ (fun h => by cases h) ?_; clear hK K; (try simp only [Act.put, List.setIfInBounds_toArray, List.set_cons_zero, List.set_cons_succ]))
  (repeat ((first | (refine C_p (v := ?_) rfl rfl (fun w' => ?_) ?_; rotate_left; (go_simp; with_reducible rfl)) | (refine C_s (v := ?_) rfl rfl hS0 (fun w' hS => ?_) ?_; rotate_left; ((try dsimp only at hS); go_simp; with_reducible rfl)) | (refine C_t (v := ?_) rfl rfl ?_ ?_; rotate_left; (go_simp; with_reducible rfl)) | (refine C_po rfl rfl ?_) | (refine C_so rfl rfl hS0 ?_) | (refine C_to rfl rfl ?_)); simp only [Act.put, List.setIfInBounds_toArray, List.set_cons_zero, List.set_cons_succ]))
  refine C_nil ?_
  obtain ⟨cells, hPC⟩ := pairs_cells ((rPairQ.slice 2).mono HJ8.out HP.out.2.2.2.2.1)
  have hrn12 : rn ≤ 12 := by rw [HP.out.2.2.2.1]; exact HP.out.2.2.2.2.2.1
  have hrcI : (rc : Int) ≤ 9223372036854775807 := by have := hPC.cm; unfold maxLen at this; omega
  have hrnc := hPC.nc
  have HPC := Lib.hid hPC
  have hS2 := H15.out.osl_nil 34 2
  have hsrc := HPC.out.src w14 H15.out.ext
  have HSR := Lib.hid hsrc
  clear hPC hsrc H15 HQ20
  go_wp2_with (at_builtin; refine wpl_append_osl rfl (.tmp 70) (.tmp 71) 27 rfl 34 2 32 (.agg #[.int .i64 0, .slice none 0 0]) Tryd.underlying27 infoQPair rfl rfl hS2 rfl cells HPC.out.len HPC.out.hnone HSR.out HPC.out.one (by omega) (by unfold maxLen; omega) ?_)
  intro oa oc w15 h16
  clear hS2 HSR
  obtain ⟨r1, r2⟩ := aroundI_lt a4 ((rn : Int) + 1) (by omega)
  obtain ⟨k, hk⟩ : ∃ k : Nat, aroundI a4 ((rn : Int) + 1) = k := ⟨(aroundI a4 ((rn : Int) + 1)).toNat, by omega⟩
  have har := around_spec a4 ((rn : Int) + 1) w15 HI.out.2.1.1 HI.out.2.1.2 (by omega) (by omega)
  rw [hk] at har r1 r2
  have HAR := Lib.hid har
  have hkn : k ≤ rn := by omega
  clear har hk r1 r2
  go_wp2_with fail
  refine HAR.out.mono ?_
  rintro e w' ⟨rfl, rfl⟩
  clear HAR
  have hkc : k ≤ rc := by omega
  have hsl1 := run_slice_pre (P := Tryd.prog) (t := 27) (E := 34) (k := 2) Tryd.underlying27 (by kernel_rfl) ra rn rc k hkc
  have hS2 := h16.osl_nil 34 2
  have hsrc := (HPC.out.src w15 h16.p1.ext).take (k * 2)
  have HSR := Lib.hid hsrc
  clear h16 hsrc
  go_wp2_with (at_builtin; refine wpl_append_osl rfl (.tmp 78) (.tmp 81) 27 rfl 34 2 32 (.agg #[.int .i64 0, .slice none 0 0]) Tryd.underlying27 infoQPair rfl rfl hS2 rfl (cells.take (k * 2)) (by rw [List.length_take, HPC.out.len]; omega) (fun e => by have := HPC.out.hnone e; omega) HSR.out (fun u hu => HPC.out.one u (List.mem_of_mem_take hu)) (by omega) (by unfold maxLen; omega) ?_)
  intro ja jc w16 h17
  clear hS2 HSR hsl1
  have H17 := Lib.hid h17
  clear h17
  go_upto_if 86 with (fail)
  go_cut [22] (fun lv wx => ∃ (ia : Option Addr) (m ic : Nat) (LL OO : PrL) (J : Mem), lv = .slice ia m ic ∧ Hid (Mem.le J8 J) ∧ Hid (LL.length ≤ 100 ∧ (rPairQ.slice 2).rel J [.slice ia m ic] LL ∧ OO.length ≤ 100 ∧ (rPairQ.slice 2).rel J [.slice oa rn oc] OO) ∧ Hid (Sat w wx (sep (kn J) emp)))
  case first =>
    by_cases hlt : k < rn
    · have hs1 : decide (k < rn) = true := decide_eq_true hlt
      rw [hs1]
      have hkP : k < PL.length := by rw [← HP.out.2.2.2.1]; exact hlt
      obtain ⟨pb, po, va, vc, era, hcx, -⟩ := pair_ext ((rPairQ.slice 2).mono HJ8.out HP.out.2.2.2.2.1) k hkP
      subst era
      obtain ⟨ky, hky⟩ : ∃ z, z = PL[k].1 := ⟨_, rfl⟩
      rw [← hky] at hcx
      have hsl2 := run_slice_from (P := Tryd.prog) (t := 27) (E := 34) (k := 2) Tryd.underlying27 (by kernel_rfl) (some ⟨pb, po, none⟩) rn rc (k + 1) (by omega)
      rw [show ((k + 1 : Nat) : Int) = (k : Int) + 1 by omega] at hsl2
      have hsrc := (HPC.out.src w16 H17.out.p2.ext).sub (rc = k + 1) ((k + 1) * 2) (by intro e; have := HPC.out.len; omega)
      obtain ⟨a6, ha6⟩ : ∃ a6, a6 = subA (some ⟨pb, po, none⟩) (rc = k + 1) ((k + 1) * 2) := ⟨_, rfl⟩
      have ha6n : a6 = none → rn - (k + 1) = 0 := fun e => by have := subA_none (by rw [← ha6]; exact e); cases this
      rw [← ha6] at hsl2 hsrc
      have HSR := Lib.hid (And.intro hsrc ha6n)
      obtain ⟨c, hc⟩ := wrap_u8C (hh : Int)
      clear hsrc ha6n ha6
      go_wp2_with (at_builtin; refine wpl_append_osl rfl (.tmp 87) (.tmp 91) 27 rfl 34 2 32 (.agg #[.int .i64 0, .slice none 0 0]) Tryd.underlying27 infoQPair rfl rfl H17.out rfl (cells.drop ((k + 1) * 2)) (by rw [List.length_drop, HPC.out.len, Nat.sub_mul]) HSR.out.2 HSR.out.1 (fun u hu => HPC.out.one u (List.mem_of_mem_drop hu)) (by omega) (by unfold maxLen; omega) ?_)
      intro ia ic w17 h18
      clear hsl2 HSR H17
      obtain ⟨J9, hJ9, hrb, h19⟩ := (show Sat w (w17.alloc (.cells ([c].map bv).toArray 5)) (sep (rBytes.is [.slice (some ⟨w17.heap.size, 0, none⟩) 1 1] [c]) (sep (kn J8) (sep (osl 34 2 ia (k + (rn - (k + 1))) ic (cells.take (k * 2) ++ cells.drop ((k + 1) * 2))) (sep (osl 34 2 oa rn oc cells) emp)))) from
        (show Sat w w17 (sep (kn J8) (sep (osl 34 2 ia (k + (rn - (k + 1))) ic (cells.take (k * 2) ++ cells.drop ((k + 1) * 2))) (sep (osl 34 2 oa rn oc cells) emp))) from h18.p2).bytes_of_alloc [c] 5 (0, 0) (show 1 ≤ maxLen by unfold maxLen; omega)).learn
      have fkey := (hcx w17 h18.p2.ext).1
      have h19' : Sat w (w17.alloc (.cells #[.int .u8 (c.toNat : Int)] 5)) (sep (osl 34 2 oa rn oc cells) (sep (kn J9) (sep (osl 34 2 ia (k + (rn - (k + 1))) ic (cells.take (k * 2) ++ cells.drop ((k + 1) * 2))) emp))) := (show Sat w (w17.alloc (.cells #[.int .u8 (c.toNat : Int)] 5)) (sep (kn J9) (sep (osl 34 2 ia (k + (rn - (k + 1))) ic (cells.take (k * 2) ++ cells.drop ((k + 1) * 2))) (sep (osl 34 2 oa rn oc cells) emp))) from h19).p2
      obtain ⟨⟨ua, uc, ck0, -, -⟩, hrows⟩ := rows_setQ ((rPairQ.rows 2).mono hJ9 HPC.out.rows) hkP (some ⟨w17.heap.size, 0, none⟩) 1 [c] hrb
      rw [← hky] at ck0 hrows
      have hlen := HPC.out.len
      obtain ⟨go, v0, v1, eg, hv0, fz0, hv1, fz1, h21⟩ := pair_store h19' (k * 2) (by omega) (.int .i64 ky) (.slice (some ⟨w17.heap.size, 0, none⟩) 1 1)
      rw [set_same ck0] at h21
      subst eg
      obtain ⟨rl1, -⟩ := rows_parts ((rPairQ.rows 2).mono hJ9 HPC.out.rows) k
      obtain ⟨-, rl2⟩ := rows_parts ((rPairQ.rows 2).mono hJ9 HPC.out.rows) (k + 1)
      have rl := rows_app rl1 rl2
      have hll : k + (rn - (k + 1)) = (PL.take k ++ PL.drop (k + 1)).length := by
        rw [List.length_append, List.length_take, List.length_drop, ← HP.out.2.2.2.1]; omega
      have hll2 : rn = (PL.set k (ky, [c])).length := by rw [List.length_set]; exact HPC.out.hn
      obtain ⟨J10, hJ10, hr1, h22⟩ := pairs_learn h21 hrows hll2
      obtain ⟨J11, hJ11, hr2, h23⟩ := pairs_learn (show Sat w _ (sep (osl 34 2 ia (k + (rn - (k + 1))) ic (cells.take (k * 2) ++ cells.drop ((k + 1) * 2))) (sep (kn J10) emp)) from h22.p1) ((rPairQ.rows 2).mono hJ10 rl) hll
      have HR2 := Lib.hid (And.intro (show (PL.take k ++ PL.drop (k + 1)).length ≤ 100 by rw [← hll]; omega) (And.intro hr2 (And.intro (show (PL.set k (ky, [c])).length ≤ 100 by rw [← hll2]; omega) ((rPairQ.slice 2).mono hJ11 hr1))))
      have H23 := Lib.hid h23
      have HLE := Lib.hid (Mem.le_trans hJ9 (Mem.le_trans hJ10 hJ11))
      have hkI : (k : Int) < (rn : Int) := by omega
      clear h18 h19 h21 h22 h23 hJ9 hJ10 hJ11 hr1 hr2 rl rl1 rl2 hll hll2 hrows ck0 hrb hky hcx hkP hlen hs1 h19'
      go_wp2_with fail
      go_meet
      exact ⟨ia, k + (rn - (k + 1)), ic, _, _, J11, rfl, HLE, HR2, H23⟩
    · have hs1 : decide (k < rn) = false := decide_eq_false hlt
      rw [hs1]
      obtain ⟨rl1, -⟩ := rows_parts HPC.out.rows k
      have hkl : k = (PL.take k).length := by rw [List.length_take, ← HP.out.2.2.2.1]; omega
      obtain ⟨J9, hJ9, hr1, h18⟩ := pairs_learn (show Sat w w16 (sep (osl 34 2 ja k jc (cells.take (k * 2))) (sep (kn J8) (sep (osl 34 2 oa rn oc cells) emp))) by have := H17.out; simpa only [sep_comm, sep_lcomm, sep_assoc] using this) rl1 hkl
      obtain ⟨J10, hJ10, hr2, h19⟩ := pairs_learn (show Sat w w16 (sep (osl 34 2 oa rn oc cells) (sep (kn J9) emp)) from h18.p1) ((rPairQ.rows 2).mono hJ9 HPC.out.rows) HPC.out.hn
      have HR2 := Lib.hid (And.intro (show (PL.take k).length ≤ 100 by rw [← hkl]; omega) (And.intro ((rPairQ.slice 2).mono hJ10 hr1) (And.intro (show PL.length ≤ 100 by have := HP.out.2.2.2.2.2.1; omega) hr2)))
      have H19 := Lib.hid h19
      have HLE := Lib.hid (Mem.le_trans hJ9 hJ10)
      clear rl1 hkl hJ9 hr1 h18 hJ10 hr2 h19 H17
      go_wp2_with fail
      go_meet
      exact ⟨ja, k, jc, PL.take k, PL, J10, rfl, HLE, HR2, H19⟩
  case rest =>
    obtain ⟨ia, m, ic, LL, OO, J9, rfl, HJ9, HLO, H9⟩ := hcut
    clear H17
    have hPC9 := pairs_cells ((rPairQ.slice 2).mono HJ9.out ((rPairQ.slice 2).mono HJ8.out HP.out.2.2.2.2.1))
    obtain ⟨cells9, hPC9⟩ := hPC9
    have HPC9 := Lib.hid hPC9
    have hS2 := (H9.out.alloc (.cells #[] 34)).osl_mk 0 0 2 [] rfl (by omega) (by unfold maxLen; omega) rfl rfl
    have HSR := Lib.hid (HPC9.out.src _ hS2.p1.ext)
    clear hPC9
    go_wp2_with (at_builtin; refine wpl_append_osl rfl (.tmp 105) (.tmp 106) 27 rfl 34 2 32 (.agg #[.int .i64 0, .slice none 0 0]) Tryd.underlying27 infoQPair rfl rfl hS2 rfl cells9 HPC9.out.len HPC9.out.hnone HSR.out HPC9.out.one (by omega) (by unfold maxLen; omega) ?_)
    intro ma mc w18 h18
    clear hS2 HSR
    have hky := qkey_spec a4 HI.out.2.1 h18
    obtain ⟨kq, hkq⟩ : ∃ z, z = keyQ a4 := ⟨_, rfl⟩
    rw [← hkq] at hky
    have HKY := Lib.hid hky
    clear h18 hky hkq
    go_wp2_with fail
    refine HKY.out.mono ?_
    rintro e w19 ⟨rfl, h19⟩
    have hS2 := h19.alloc0 (.cells #[.int .i64 kq, .slice none 0 0] 34)
    clear HKY h19
    go_wp2_with (at_builtin; refine wpl_append_osl rfl (.tmp 107) (.tmp 111) 27 rfl 34 2 32 (.agg #[.int .i64 0, .slice none 0 0]) Tryd.underlying27 infoQPair rfl rfl hS2 rfl [.int .i64 kq, .slice none 0 0] rfl (by simp) (by intro b hb; cases hb; exact new_src _ [_, _] _) (by simp [Value.oneCell']) (by omega) (by unfold maxLen; omega) ?_)
    intro na nc w20 h20
    clear hS2
    have hrm : (rPairQ.rows 2).rel J9 (cells9 ++ [.int .i64 kq, .slice none 0 0]) (PL ++ [(kq, [])]) := rows_app HPC9.out.rows (rows_one ⟨none, 0, rfl, noB J9⟩ rfl)
    obtain ⟨J10, hJ10, hrM, h21⟩ := pairs_learn h20 hrm (by rw [List.length_append, ← HPC9.out.hn]; rfl)
    have h22 := (h21.alloc (.cells #[.slice ra rn rc, .slice oa rn oc, .slice ia m ic, .slice na (rn + 1) nc] 27)).alloc (.cells #[.int .u64 (rt : Int), .int .u64 (hh : Int), .int .u64 0] 43)
    obtain ⟨q25, hq25⟩ : ∃ z, z = w20.heap.size := ⟨_, rfl⟩
    obtain ⟨w21, hw21⟩ : ∃ z, z = (w20.alloc (.cells #[.slice ra rn rc, .slice oa rn oc, .slice ia m ic, .slice na (rn + 1) nc] 27)).alloc (.cells #[.int .u64 (rt : Int), .int .u64 (hh : Int), .int .u64 0] 43) := ⟨_, rfl⟩
    rw [World.size_alloc, ← hq25, ← hw21] at h22
    obtain ⟨J11, hJ11, hb26, h23⟩ := (show Sat w w21 (sep (imm (q25 + 1) (.cells #[.int .u64 (rt : Int), .int .u64 (hh : Int), .int .u64 0] 43)) (sep (kn J10) (sep (blk q25 (.cells #[.slice ra rn rc, .slice oa rn oc, .slice ia m ic, .slice na (rn + 1) nc] 27 (0, 0))) emp))) by simpa only [sep_comm, sep_lcomm, sep_assoc] using h22.settle).learn
    obtain ⟨J12, hJ12, hb25, h24⟩ := (show Sat w w21 (sep (imm q25 (.cells #[.slice ra rn rc, .slice oa rn oc, .slice ia m ic, .slice na (rn + 1) nc] 27 (0, 0))) (sep (kn J11) emp)) from h23.p1.settle).learn
    have HLST : Hid (∀ i, i < 4 → lstC J12 q25 i) := Lib.hid (by
      intro i hi
      have hc := fun (k : Nat) w' (he : Ext J12 w') => prf_cells hb25 he k
      have hl12 := Mem.le_trans hJ10 (Mem.le_trans hJ11 hJ12)
      have hPL12 := HP.out.2.2.2.2.2.1
      rcases (by omega : i = 0 ∨ i = 1 ∨ i = 2 ∨ i = 3) with rfl | rfl | rfl | rfl
      · exact ⟨_, _, _, PL, by omega, (rPairQ.slice 2).mono (Mem.le_trans HJ8.out (Mem.le_trans HJ9.out hl12)) HP.out.2.2.2.2.1, hc 0⟩
      · exact ⟨_, _, _, OO, HLO.out.2.2.1, (rPairQ.slice 2).mono hl12 HLO.out.2.2.2, hc 1⟩
      · exact ⟨_, _, _, LL, HLO.out.1, (rPairQ.slice 2).mono hl12 HLO.out.2.1, hc 2⟩
      · exact ⟨_, _, _, PL ++ [(kq, [])], by rw [List.length_append]; simp; omega, (rPairQ.slice 2).mono (Mem.le_trans hJ11 hJ12) hrM, hc 3⟩)
    have HRTS : Hid (∀ i, i < 3 → ∃ r : Nat, r < 18446744073709551616 ∧ ∀ w', Ext J12 w' → w'.cell? ⟨q25 + 1, i, none⟩ = some (.int .u64 (r : Int))) := Lib.hid (by
      intro i hi
      have hc := fun (k : Nat) w' (he : Ext J12 w') => prf_cells (hJ12 _ _ hb26) he k
      rcases (by omega : i = 0 ∨ i = 1 ∨ i = 2) with rfl | rfl | rfl
      · exact ⟨rt, HP.out.2.2.2.2.2.2, hc 0⟩
      · exact ⟨hh, HI.out.2.2, hc 1⟩
      · exact ⟨0, by decide, hc 2⟩)
    have HQ25 := Lib.hid (And.intro hq25 hw21)
    have H24 := Lib.hid h24
    have HLE := Lib.hid (Mem.le_trans HJ9.out (Mem.le_trans hJ10 (Mem.le_trans hJ11 hJ12)))
    clear h20 h21 h22 h23 h24 hJ10 hJ11 hJ12 hrm hrM hb25 hb26 hq25 hw21 HPC9 HPC H9
    go_upto_region 20 with (fail)
    rw [← HQ25.out.1, ← HQ25.out.2]
    go_wp2_with fail
    go_loopw [27] (fun iv wr => ∃ (i : Nat) (J : Mem), i ≤ 4 ∧ iv = .int .i64 (i : Nat) ∧ Hid (Mem.le J12 J) ∧ Hid (Sat w wr (sep (kn J) emp))) (fun iv _ => 4 - (intOf iv).toNat)
    case atStart => exact ⟨0, J12, by omega, rfl, Lib.hid (Mem.le_refl _), H24⟩
    case round =>
      clear H24
      obtain ⟨i, JA, hi4, rfl, HJA, HS⟩ := hrel
      by_cases hlt : i < 4
      · have g1 : (i : Int) < 4 := by omega
        go_wp2_with fail
        go_loopw [28] (fun iv wr => ∃ (y : Nat) (J : Mem), y ≤ 4 ∧ iv = .int .i64 (y : Nat) ∧ Hid (Mem.le J12 J) ∧ Hid (Sat w wr (sep (kn J) emp))) (fun iv _ => 4 - (intOf iv).toNat)
        case atStart => exact ⟨0, JA, by omega, rfl, HJA, HS⟩
        case round =>
          clear HS HJA
          obtain ⟨y, JB, hy4, rfl, HJB, HS⟩ := hrel
          by_cases hlty : y < 4
          · have g2 : (y : Int) < 4 := by omega
            go_wp2_with fail
            go_loopw [29] (fun iv wr => ∃ (z : Nat) (J : Mem), z ≤ 3 ∧ iv = .int .i64 (z : Nat) ∧ Hid (Mem.le J12 J) ∧ Hid (Sat w wr (sep (kn J) emp))) (fun iv _ => 3 - (intOf iv).toNat)
            case atStart => exact ⟨0, JB, by omega, rfl, HJB, HS⟩
            case round =>
              clear HS HJB
              obtain ⟨z, JC, hz3, rfl, HJC, HS⟩ := hrel
              by_cases hltz : z < 3
              · have g3 : (z : Int) < 3 := by omega
                obtain ⟨r, hr64, hrc⟩ := HRTS.out z hltz
                obtain ⟨la', ln, lc', QL, hql, hqr, hqc⟩ := HLST.out y hlty
                obtain ⟨b1, n1, c1, b2, n2, c2, b3, n3, c3, pp, hps, hpr, hpc⟩ := HROW.out i hlt
                have hS12 : ∀ w', Ext J12 w' → (w'.cell? ⟨q25 + 1, z, none⟩ = some (.int .u64 (r : Int)) ∧ w'.cell? ⟨q25, y, none⟩ = some (.slice la' ln lc')) ∧ w'.cell? ⟨q20, i * 3, none⟩ = some (.slice b1 n1 c1) ∧ w'.cell? ⟨q20, i * 3 + 1, none⟩ = some (.slice b2 n2 c2) ∧ w'.cell? ⟨q20, i * 3 + 2, none⟩ = some (.slice b3 n3 c3) := fun w' he => ⟨⟨hrc w' he, hqc w' he⟩, hpc w' (fun b o hb => he b o (HLE.out b o hb))⟩
                have HS12 := Lib.hid hS12
                have HQ := Lib.hid (And.intro hql (And.intro hqr (And.intro hps hpr)))
                have hd := HS.out.drew
                obtain ⟨wd9, hwd9⟩ : ∃ z, z = wr.drew := ⟨_, rfl⟩
                rw [← hwd9] at hd
                have hS0 := HS12.out wd9 (fun b o hb => hd.ext b o (HJC.out b o hb))
                obtain ⟨⟨y0, y1⟩, y2, y3, y4⟩ := id hS0
                have HOW := Lib.hid (own_spec (.slice la' ln lc') QL hd ((rPairQ.slice 2).mono HJC.out hqr) (by omega))
                have HWD9 := Lib.hid hwd9
                obtain ⟨cv, hcv⟩ : ∃ z, z = checkP r lo hi QL pp := ⟨_, rfl⟩
                have HCV := Lib.hid hcv
                have gcv : (cv != cv) = false := by simp
                clear hrc hql hqr hqc hps hpr hpc hS12 hd hwd9 HS hcv hr64
                go_wp2_with fail
                refine wp_region_canon rfl (fun w' => (w'.cell? ⟨q25 + 1, z, none⟩ = some (.int .u64 (r : Int)) ∧ w'.cell? ⟨q25, y, none⟩ = some (.slice la' ln lc')) ∧ w'.cell? ⟨q20, i * 3, none⟩ = some (.slice b1 n1 c1) ∧ w'.cell? ⟨q20, i * 3 + 1, none⟩ = some (.slice b2 n2 c2) ∧ w'.cell? ⟨q20, i * 3 + 2, none⟩ = some (.slice b3 n3 c3)) [(0, .p), (1, .p), (2, .p), (3, .s), (4, .p), (5, .p), (6, .p), (7, .p), (8, .p), (9, .t), (11, .p), (12, .p), (13, .p), (14, .s), (17, .p), (18, .p), (19, .p), (20, .s), (21, .p), (22, .p), (23, .p), (24, .p), (25, .p), (26, .s), (27, .p), (28, .p), (29, .p), (30, .s), (10, .e true), (15, .e true), (16, .e true), (31, .e false), (32, .p)] (by kernel_rfl) ?_
                rw [← HWD9.out]
                (repeat ((first | (refine C_p (v := ?_) rfl rfl (fun w' => ?_) ?_; rotate_left; (go_simp; with_reducible rfl)) | (refine C_s (v := ?_) rfl rfl hS0 (fun w' hS => ?_) ?_; rotate_left; ((try dsimp only at hS); go_simp; with_reducible rfl)) | (refine C_t (v := ?_) rfl rfl ?_ ?_; rotate_left; (go_simp; with_reducible rfl)) | (refine C_po rfl rfl ?_) | (refine C_so rfl rfl hS0 ?_) | (refine C_to rfl rfl ?_)); simp only [Act.put, List.setIfInBounds_toArray, List.set_cons_zero, List.set_cons_succ]))
                (refine C_e rfl rfl (fun K hK => ?_); go_simp)
                refine HOW.out.mono ?_
                rintro e wa ⟨xa, xc, JD, rfl, hJD, hxr, hA⟩
                have HJD := Lib.hid (Mem.le_trans HJC.out hJD)
                have hS1 := HS12.out wa (fun b o hb => hA.ext b o (HJD.out b o hb))
                have HPRF := Lib.hid (proof_spec b1 b2 b3 n1 n2 n3 c1 c2 c3 hA)
                have HXR := Lib.hid hxr
                obtain ⟨nQ, hnQ⟩ : ∃ z, z = QL.length := ⟨_, rfl⟩
                rw [← hnQ] at HXR ⊢
                clear HOW hA hJD hxr hS0 y0 y1 y2 y3 y4 hnQ
                (refine hK _ _ (fun _ => hS1) ?_; clear hK K; (try simp only [Act.put, List.setIfInBounds_toArray, List.set_cons_zero, List.set_cons_succ]))
                clear hS1
                (refine C_e rfl rfl (fun K hK => ?_); go_simp)
                refine HPRF.out.mono ?_
                rintro e wb ⟨rfl, hB⟩
                have hS1 := HS12.out wb (fun b o hb => hB.ext b o (HJD.out b o hb))
                have hac := acheck_spec HW.out r lo hi xa nQ xc QL _ pp hB HXR.out (by have := HQ.out.1; omega) (prfR.mono (Mem.le_trans HLE.out HJD.out) HQ.out.2.2.2) HQ.out.2.2.1.ok
                rw [← HCV.out] at hac
                have HAC := Lib.hid hac
                clear HPRF hB hac
                (refine hK _ _ (fun _ => hS1) ?_; clear hK K; (try simp only [Act.put, List.setIfInBounds_toArray, List.set_cons_zero, List.set_cons_succ]))
                clear hS1
                (refine C_e rfl rfl (fun K hK => ?_); go_simp)
                refine HAC.out.mono ?_
                rintro e wc9 ⟨rfl, hC⟩
                have hS1 := HS12.out wc9 (fun b o hb => hC.ext b o (HJD.out b o hb))
                have hqk := qcheck_spec r lo hi la' ln lc' QL _ pp hC ((rPairQ.slice 2).mono HJD.out HQ.out.2.1) (by have := HQ.out.1; omega) (prfR.mono (Mem.le_trans HLE.out HJD.out) HQ.out.2.2.2) HQ.out.2.2.1
                rw [← HCV.out] at hqk
                have HQK := Lib.hid hqk
                clear HAC hC hqk
                (refine hK _ _ (fun _ => hS1) ?_; clear hK K; (try simp only [Act.put, List.setIfInBounds_toArray, List.set_cons_zero, List.set_cons_succ]))
                clear hS1
                (refine C_e rfl rfl (fun K hK => ?_); go_simp)
                refine HQK.out.mono ?_
                rintro e wd8 ⟨rfl, hD⟩
                have HD := Lib.hid hD
                clear HQK hD
                (refine hK _ _ (fun h => by cases h) ?_; clear hK K; (try simp only [Act.put, List.setIfInBounds_toArray, List.set_cons_zero, List.set_cons_succ]))
                (repeat ((first | (refine C_p (v := ?_) rfl rfl (fun w' => ?_) ?_; rotate_left; (go_simp; with_reducible rfl)) | (refine C_s (v := ?_) rfl rfl hS0 (fun w' hS => ?_) ?_; rotate_left; ((try dsimp only at hS); go_simp; with_reducible rfl)) | (refine C_t (v := ?_) rfl rfl ?_ ?_; rotate_left; (go_simp; with_reducible rfl)) | (refine C_po rfl rfl ?_) | (refine C_so rfl rfl hS0 ?_) | (refine C_to rfl rfl ?_)); simp only [Act.put, List.setIfInBounds_toArray, List.set_cons_zero, List.set_cons_succ]))
                refine C_nil ?_
                go_wp2_with fail
                go_roundw
                case rel => exact ⟨z + 1, JD, by omega, by go_num, HJD, HD⟩
                case measure => simp only [intOf]; omega
              · have g3 : ¬ (z : Int) < 3 := by omega
                go_wp2_with fail
                go_roundw
                case rel => exact ⟨y + 1, JC, by omega, by go_num, HJC, HS⟩
                case measure => simp only [intOf]; omega
          · have g2 : ¬ (y : Int) < 4 := by omega
            go_wp2_with fail
            go_roundw
            case rel => exact ⟨i + 1, JB, by omega, by go_num, HJB, HS⟩
            case measure => simp only [intOf]; omega
      · have g1 : ¬ (i : Int) < 4 := by omega
        have hd := HS.out.drew
        obtain ⟨wd9, hwd9⟩ : ∃ z, z = wr.drew := ⟨_, rfl⟩
        rw [← hwd9] at hd
        have hJ3A := Mem.le_trans HJ8.out (Mem.le_trans HLE.out HJA.out)
        have hS0 := HCX.out wd9 (fun b o hb => hd.ext b o (hJ3A b o hb))
        have HJ3A := Lib.hid hJ3A
        have HOW := Lib.hid (own_spec (.slice ra rn rc) PL hd ((rPairQ.slice 2).mono hJ3A HP.out.2.2.2.2.1) (by have := HP.out.2.2.2.2.2.1; omega))
        have HWD9 := Lib.hid hwd9
        have hb := HBB.out
        have hwr : IntKind.i64.wrap (hi + 1) = hi + 1 := by rw [IntKind.wrap_i64]; omega
        have hc1 : ∀ qq, checkP rt (hi + 1) lo PL qq = 5 := fun qq => by unfold checkP; rw [if_pos (by omega)]
        have hc2 : ∀ qq, checkP rt (-1) hi PL qq = 5 := fun qq => by unfold checkP; rw [if_pos (by omega)]
        have HC12 := Lib.hid (And.intro hc1 hc2)
        clear hd hwd9 HS hJ3A hb hc1 hc2 hlt
        go_wp2_with fail
        refine wp_region_canon rfl (fun w' => w'.cell? ⟨x1, 0, none⟩ = some (.slice la nl lc) ∧ w'.cell? ⟨x1, 1, none⟩ = some (.slice ta nt tc) ∧ w'.cell? ⟨x1, 2, none⟩ = some (.slice sa ns' sc)) [(0, .p), (1, .p), (2, .p), (3, .p), (4, .p), (6, .s), (5, .e true), (7, .e true), (8, .e true), (9, .p), (10, .p), (11, .p), (12, .p), (13, .p), (15, .s), (14, .e true), (16, .e false), (17, .e false), (18, .p), (19, .p), (20, .p), (21, .e false), (22, .p), (23, .p)] (by kernel_rfl) ?_
        rw [← HWD9.out]
        (repeat ((first | (refine C_p (v := ?_) rfl rfl (fun w' => ?_) ?_; rotate_left; (go_simp; with_reducible rfl)) | (refine C_s (v := ?_) rfl rfl hS0 (fun w' hS => ?_) ?_; rotate_left; ((try dsimp only at hS); go_simp; with_reducible rfl)) | (refine C_t (v := ?_) rfl rfl ?_ ?_; rotate_left; (go_simp; with_reducible rfl)) | (refine C_po rfl rfl ?_) | (refine C_so rfl rfl hS0 ?_) | (refine C_to rfl rfl ?_)); simp only [Act.put, List.setIfInBounds_toArray, List.set_cons_zero, List.set_cons_succ]))
        (refine C_e rfl rfl (fun K hK => ?_); go_simp)
        refine HOW.out.mono ?_
        rintro e wa ⟨xa, xc, JD, rfl, hJD, hxr, hA⟩
        have HJD := Lib.hid (Mem.le_trans HJ3A.out hJD)
        have hS1 := HCX.out wa (fun b o hb => hA.ext b o (HJD.out b o hb))
        have HPRF := Lib.hid (proof_spec la ta sa nl nt ns' lc tc sc hA)
        have HXR := Lib.hid hxr
        obtain ⟨nQ, hnQ⟩ : ∃ z, z = PL.length := ⟨_, rfl⟩
        have HNQ := Lib.hid hnQ
        rw [← hnQ] at HXR ⊢
        clear HOW hA hJD hxr hS0 hnQ
        (refine hK _ _ (fun _ => hS1) ?_; clear hK K; (try simp only [Act.put, List.setIfInBounds_toArray, List.set_cons_zero, List.set_cons_succ]))
        clear hS1
        (refine C_e rfl rfl (fun K hK => ?_); go_simp)
        refine HPRF.out.mono ?_
        rintro e wb ⟨rfl, hB⟩
        have hS1 := HCX.out wb (fun b o hb => hB.ext b o (HJD.out b o hb))
        have hac := acheck_spec HW.out rt (hi + 1) lo xa nQ xc PL _ p hB HXR.out (by have := HP.out.2.2.2.2.2.1; omega) (prfR.mono HJD.out HP.out.2.2.1) HP.out.2.1.ok
        rw [HC12.out.1] at hac
        have HAC := Lib.hid hac
        clear HPRF hB hac
        (refine hK _ _ (fun _ => hS1) ?_; clear hK K; (try simp only [Act.put, List.setIfInBounds_toArray, List.set_cons_zero, List.set_cons_succ]))
        clear hS1
        (refine C_e rfl rfl (fun K hK => ?_); go_simp)
        refine HAC.out.mono ?_
        rintro e wc9 ⟨rfl, hC⟩
        have hS1 := HCX.out wc9 (fun b o hb => hC.ext b o (HJD.out b o hb))
        have HOW2 := Lib.hid (own_spec (.slice ra rn rc) PL hC ((rPairQ.slice 2).mono HJD.out HP.out.2.2.2.2.1) (by have := HP.out.2.2.2.2.2.1; omega))
        clear HAC hC
        (refine hK _ _ (fun _ => hS1) ?_; clear hK K; (try simp only [Act.put, List.setIfInBounds_toArray, List.set_cons_zero, List.set_cons_succ]))
        have hS0 := hS1
        clear hS1
        (repeat ((first | (refine C_p (v := ?_) rfl rfl (fun w' => ?_) ?_; rotate_left; (go_simp; with_reducible rfl)) | (refine C_s (v := ?_) rfl rfl hS0 (fun w' hS => ?_) ?_; rotate_left; ((try dsimp only at hS); go_simp; with_reducible rfl)) | (refine C_t (v := ?_) rfl rfl ?_ ?_; rotate_left; (go_simp; with_reducible rfl)) | (refine C_po rfl rfl ?_) | (refine C_so rfl rfl hS0 ?_) | (refine C_to rfl rfl ?_)); simp only [Act.put, List.setIfInBounds_toArray, List.set_cons_zero, List.set_cons_succ]))
        (refine C_e rfl rfl (fun K hK => ?_); go_simp)
        refine HOW2.out.mono ?_
        rintro e wd8 ⟨za, zc, JE, rfl, hJE, hzr, hD⟩
        have HJE := Lib.hid (Mem.le_trans HJD.out hJE)
        have hS1 := HCX.out wd8 (fun b o hb => hD.ext b o (HJE.out b o hb))
        have HPRF := Lib.hid (proof_spec la ta sa nl nt ns' lc tc sc hD)
        have HZR := Lib.hid hzr
        rw [← HNQ.out] at HZR ⊢
        clear HOW2 hD hJE hzr hS0
        (refine hK _ _ (fun _ => hS1) ?_; clear hK K; (try simp only [Act.put, List.setIfInBounds_toArray, List.set_cons_zero, List.set_cons_succ]))
        clear hS1
        (refine C_e rfl rfl (fun K hK => ?_); go_simp)
        refine HPRF.out.mono ?_
        rintro e we ⟨rfl, hE⟩
        have hac := acheck_spec HW.out rt (-1) hi za nQ zc PL _ p hE HZR.out (by have := HP.out.2.2.2.2.2.1; omega) (prfR.mono HJE.out HP.out.2.2.1) HP.out.2.1.ok
        rw [HC12.out.2] at hac
        have HAC := Lib.hid hac
        clear HPRF hE hac
        (refine hK _ _ (fun h => by cases h) ?_; clear hK K; (try simp only [Act.put, List.setIfInBounds_toArray, List.set_cons_zero, List.set_cons_succ]))
        (refine C_e rfl rfl (fun K hK => ?_); go_simp)
        refine HAC.out.mono ?_
        rintro e wf ⟨rfl, hF⟩
        have HLV := Lib.hid (lives33_spec HW.out hF)
        clear HAC hF
        (refine hK _ _ (fun h => by cases h) ?_; clear hK K; (try simp only [Act.put, List.setIfInBounds_toArray, List.set_cons_zero, List.set_cons_succ]))
        (repeat ((first | (refine C_p (v := ?_) rfl rfl (fun w' => ?_) ?_; rotate_left; (go_simp; with_reducible rfl)) | (refine C_s (v := ?_) rfl rfl hS0 (fun w' hS => ?_) ?_; rotate_left; ((try dsimp only at hS); go_simp; with_reducible rfl)) | (refine C_t (v := ?_) rfl rfl ?_ ?_; rotate_left; (go_simp; with_reducible rfl)) | (refine C_po rfl rfl ?_) | (refine C_so rfl rfl hS0 ?_) | (refine C_to rfl rfl ?_)); simp only [Act.put, List.setIfInBounds_toArray, List.set_cons_zero, List.set_cons_succ]))
        (refine C_e rfl rfl (fun K hK => ?_); go_simp)
        refine HLV.out.mono ?_
        rintro e wg ⟨rfl, hG⟩
        have HB := Lib.hid hG.below
        clear HLV hG
        (refine hK _ _ (fun h => by cases h) ?_; clear hK K; (try simp only [Act.put, List.setIfInBounds_toArray, List.set_cons_zero, List.set_cons_succ]))
        (repeat ((first | (refine C_p (v := ?_) rfl rfl (fun w' => ?_) ?_; rotate_left; (go_simp; with_reducible rfl)) | (refine C_s (v := ?_) rfl rfl hS0 (fun w' hS => ?_) ?_; rotate_left; ((try dsimp only at hS); go_simp; with_reducible rfl)) | (refine C_t (v := ?_) rfl rfl ?_ ?_; rotate_left; (go_simp; with_reducible rfl)) | (refine C_po rfl rfl ?_) | (refine C_so rfl rfl hS0 ?_) | (refine C_to rfl rfl ?_)); simp only [Act.put, List.setIfInBounds_toArray, List.set_cons_zero, List.set_cons_succ]))
        refine C_nil ?_
        go_wp2_with fail
        go_ret
        exact ⟨rfl, HB.out⟩
end Go.Proofs.YtcmjbjlliehdiaaDoor
