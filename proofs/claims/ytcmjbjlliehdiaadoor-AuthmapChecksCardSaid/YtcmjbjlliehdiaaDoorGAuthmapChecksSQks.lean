/- The reference's Check: the walk. -/
import Derived.Test.YtcmjbjlliehdiaaDoorGAuthmapChecks29
import Derived.Test.YtcmjbjlliehdiaaDoorGAuthmapChecks31
import Derived.Test.YtcmjbjlliehdiaaDoorGAuthmapChecks47
import Derived.Test.YtcmjbjlliehdiaaDoorGAuthmapChecks43
import Derived.Deep.DeepCutAuto
namespace Go.Proofs.YtcmjbjlliehdiaaDoor
open Go.RowKit PA
attribute [local go_sem] Oper.semAt_some
theorem hs_at {I : Mem} {a : Option Addr} {n c : Nat} {l : List Nat} (h : rHs.rel I [.slice a n c] l) : n = l.length ∧ n ≤ c ∧ (c : Int) ≤ 9223372036854775807 ∧ ∀ (i : Nat) (hi : i < l.length), ∃ b o, a = some ⟨b, o, none⟩ ∧ ∀ w', Ext I w' → w'.cell? ⟨b, o + i, none⟩ = some (.int .u64 (l[i] : Nat)) := by
  obtain ⟨a', c', e, hw, hc⟩ := hs_rel.1 h
  simp only [Value.slice.injEq] at e
  obtain ⟨rfl, rfl, rfl⟩ := e
  refine ⟨rfl, hw.1, by have := hw.2.1; unfold maxLen at this; omega, fun i hi => ?_⟩
  obtain ⟨b, o, e, hx⟩ := cells_ext hc (fun e => by have := congrArg List.length e; rw [List.length_map, List.length_nil] at this; omega)
  exact ⟨b, o, e, fun w' he => hx w' he i _ (by rw [List.getElem?_map, List.getElem?_eq_getElem hi]; rfl)⟩
theorem bs_at {I : Mem} {a : Option Addr} {n c : Nat} {l : List UInt8} (h : rBytes.rel I [.slice a n c] l) : n = l.length ∧ n ≤ c ∧ (c : Int) ≤ 9223372036854775807 ∧ ∀ (i : Nat) (hi : i < l.length), ∃ b o, a = some ⟨b, o, none⟩ ∧ ∀ w', Ext I w' → w'.cell? ⟨b, o + i, none⟩ = some (.int .u8 (l[i].toNat : Int)) := by
  obtain ⟨a', c', e, hw, hc⟩ := bytes_rel.1 h
  simp only [Value.slice.injEq] at e
  obtain ⟨rfl, rfl, rfl⟩ := e
  refine ⟨rfl, hw.1, by have := hw.2.1; unfold maxLen at this; omega, fun i hi => ?_⟩
  obtain ⟨b, o, e, hx⟩ := cells_ext hc (fun e => by have := congrArg List.length e; rw [List.length_map, List.length_nil] at this; omega)
  exact ⟨b, o, e, fun w' he => hx w' he i _ (by rw [List.getElem?_map, List.getElem?_eq_getElem hi]; rfl)⟩
def bad4 (a b k : Int) (o : Option Int) (vl : Nat) : Bool := decide (k < a) || decide (b < k) || (match o with | none => false | some kp => decide (k ≤ kp)) || decide (65536 < vl)
theorem pairE_snoc {ps : PrL} {i : Nat} (hi : i < ps.length) : pairE (ps.take (i + 1)) = pairE (ps.take i) ++ [((0, ps[i].1), leafN ps[i].1 ps[i].2)] := by
  rw [List.take_succ_eq_append_getElem hi]
  unfold pairE
  rw [List.map_append]
  rfl
set_option maxRecDepth 100000 in
set_option maxHeartbeats 16000000 in
theorem qcheck_spec {W w : World} {A : Assn} {I : Mem} (root : Nat) (a b : Int) (pa : Option Addr) (pn pc : Nat) (ps : PrL) (vp : Value) (p : Prf) (h : Sat W w (sep (kn I) A))
    (hv : (rPairQ.slice 2).rel I [.slice pa pn pc] ps) (hps : ps.length ≤ 1000) (hvp : prfR I vp p) (hp : PrfS p) :
    Calls Tryd.prog 41 #[.int .u64 (root : Nat), .int .i64 a, .int .i64 b, .slice pa pn pc, vp] w fun e w' => e = .returned (.int .i64 (checkP root a b ps p)) ∧ Sat W w' (sep (kn I) A) := by
  obtain ⟨v1, v2, v3, rfl, r1, r2, r3⟩ := hvp
  obtain ⟨a1, c1, rfl, -, -⟩ := hs_rel.1 r1
  obtain ⟨a2, c2, rfl, -, -⟩ := hs_rel.1 r2
  obtain ⟨a3, c3, rfl, -, -⟩ := bytes_rel.1 r3
  obtain ⟨-, q11, q12, L1⟩ := hs_at r1
  obtain ⟨-, q21, q22, L2⟩ := hs_at r2
  obtain ⟨-, q31, q32, L3⟩ := bs_at r3
  obtain ⟨n1, hn1⟩ : ∃ z, z = p.l.length := ⟨_, rfl⟩
  obtain ⟨n2, hn2⟩ : ∃ z, z = p.r.length := ⟨_, rfl⟩
  obtain ⟨n3, hn3⟩ : ∃ z, z = p.s.length := ⟨_, rfl⟩
  rw [← hn1] at q11 ⊢
  rw [← hn2] at q21 ⊢
  rw [← hn3] at q31 ⊢
  obtain ⟨cr, hcr⟩ : ∃ z, z = checkP root a b ps p := ⟨_, rfl⟩
  rw [← hcr]
  have hpn : pn = ps.length := by
    obtain ⟨a', c', e, -⟩ := slice_formQ hv
    simp only [Value.slice.injEq] at e
    exact e.2.1
  have hpn6 : pn ≤ 1000 := by omega
  obtain ⟨t9, ht9⟩ : ∃ z, z = w.heap.size := ⟨_, rfl⟩
  obtain ⟨w1, hw1⟩ : ∃ z, z = w.alloc (.cells #[.slice a1 n1 c1, .slice a2 n2 c2, .slice a3 n3 c3] 49) := ⟨_, rfl⟩
  have h1 := h.alloc (.cells #[.slice a1 n1 c1, .slice a2 n2 c2, .slice a3 n3 c3] 49)
  rw [← ht9, ← hw1] at h1
  obtain ⟨I2, hI2, hb9, h2⟩ := h1.settle.learn
  have HW1 := Lib.hid (And.intro ht9 hw1)
  have HT9 : Hid (∀ w', Ext I2 w' → w'.cell? ⟨t9, 0, none⟩ = some (.slice a1 n1 c1) ∧ w'.cell? ⟨t9, 1, none⟩ = some (.slice a2 n2 c2) ∧ w'.cell? ⟨t9, 2, none⟩ = some (.slice a3 n3 c3)) := Lib.hid (fun (w' : World) (he : Ext I2 w') => And.intro (cell_of_row w' t9 0 _ _ _ (he _ _ hb9)) (And.intro (cell_of_row w' t9 1 _ _ _ (he _ _ hb9)) (cell_of_row w' t9 2 _ _ _ (he _ _ hb9))))
  have HP := Lib.hid (And.intro hpn (And.intro hv (And.intro hcr (And.intro hp (And.intro hn1 (And.intro hn2 hn3))))))
  have HL := Lib.hid (And.intro L1 (And.intro L2 L3))
  have hn15 : n1 ≤ 5000 := by have := hp.l; omega
  have hn25 : n2 ≤ 5000 := by have := hp.r; omega
  have hn35 : n3 ≤ 5000 := by have := hp.s; omega
  have HI2 := Lib.hid hI2
  have H2 := Lib.hid h2
  clear h hv hps hcr hpn hp h1 h2 ht9 hw1 hb9 r1 r2 r3 L1 L2 L3 hn1 hn2 hn3 hI2
  have HNO : Hid (¬ (0 ≤ a ∧ a ≤ b ∧ b ≤ 4095) → cr = 5) := Lib.hid (fun hno => by rw [HP.out.2.2.1]; unfold checkP; rw [if_pos hno])
  by_cases k1 : a < 0
  · have hr := HNO.out (by omega)
    have HR := Lib.hid (And.intro hr (H2.out.kn_mono HI2.out))
    clear H2 HNO hr
    go_enter Tryd.func41, Tryd.ntmps41
    go_upto_region 1 with (fail)
    rw [← HW1.out.1, ← HW1.out.2]
    go_wp2_with fail
    go_ret
    exact ⟨by rw [HR.out.1]; rfl, HR.out.2⟩
  by_cases k2 : b > 4095
  · have hr := HNO.out (by omega)
    have HR := Lib.hid (And.intro hr (H2.out.kn_mono HI2.out))
    clear H2 HNO hr
    go_enter Tryd.func41, Tryd.ntmps41
    go_upto_region 1 with (fail)
    rw [← HW1.out.1, ← HW1.out.2]
    go_wp2_with fail
    go_ret
    exact ⟨by rw [HR.out.1]; rfl, HR.out.2⟩
  by_cases k3 : b < a
  · have hr := HNO.out (by omega)
    have HR := Lib.hid (And.intro hr (H2.out.kn_mono HI2.out))
    clear H2 HNO hr
    go_enter Tryd.func41, Tryd.ntmps41
    go_upto_region 1 with (fail)
    rw [← HW1.out.1, ← HW1.out.2]
    go_wp2_with fail
    go_ret
    exact ⟨by rw [HR.out.1]; rfl, HR.out.2⟩
  have HAB := Lib.hid (show 0 ≤ a ∧ a ≤ b ∧ b ≤ 4095 by omega)
  clear HNO
  have h3 := H2.out.alloc (.cells #[.slice none 0 0, .slice none 0 0] 145)
  obtain ⟨q, hq⟩ : ∃ z, z = w1.heap.size := ⟨_, rfl⟩
  obtain ⟨w2, hw2⟩ : ∃ z, z = w1.alloc (.cells #[.slice none 0 0, .slice none 0 0] 145) := ⟨_, rfl⟩
  rw [← hq, ← hw2] at h3
  have h4 : Sat W w2 (sep (blk q (.cells #[.slice none 0 0, .slice none 0 0] 145 (0, 0))) (sep (osl 117 2 none 0 0 (blkC (List.map (·.1) (pairE (ps.take 0))))) (sep (osl 43 1 none 0 0 ((List.map (·.2) (pairE (ps.take 0))).map uv)) (sep (kn I2) A)))) := by
    have := (h3.osl_nil 117 2).osl_nil 43 1
    have h5 : Sat W w2 (sep (osl 43 1 none 0 0 []) (sep (osl 117 2 none 0 0 []) (sep (blk q (.cells #[.slice none 0 0, .slice none 0 0] 145 (0, 0))) (sep (kn I2) A)))) := this
    show Sat W w2 (sep (blk q (.cells #[.slice none 0 0, .slice none 0 0] 145 (0, 0))) (sep (osl 117 2 none 0 0 []) (sep (osl 43 1 none 0 0 []) (sep (kn I2) A))))
    simpa only [sep_comm, sep_lcomm, sep_assoc] using h5
  have HW2 := Lib.hid (And.intro hq hw2)
  have H4 := Lib.hid h4
  clear H2 h3 h4 hq hw2
  go_enter Tryd.func41, Tryd.ntmps41
  go_upto_region 1 with (fail)
  rw [← HW1.out.1, ← HW1.out.2]
  go_upto_region 4 with (fail)
  rw [← HW2.out.1, ← HW2.out.2]
  clear k1 k2 k3
  go_wp2_with fail
  go_loopw [12] (fun iv wr => ∃ (i : Nat) (ab : Option Addr) (cb : Nat) (ah : Option Addr) (ch : Nat), i ≤ pn ∧ iv = .int .i64 (i : Nat) ∧ i ≤ cb ∧ cb ≤ maxLen ∧ i ≤ ch ∧ ch ≤ maxLen ∧ Hid (wrongP a b ps none = wrongP a b (ps.drop i) (prevK ps i)) ∧ Hid (Sat W wr (sep (blk q (.cells #[.slice ab i cb, .slice ah i ch] 145 (0, 0))) (sep (osl 117 2 ab i cb (blkC (List.map (·.1) (pairE (ps.take i))))) (sep (osl 43 1 ah i ch ((List.map (·.2) (pairE (ps.take i))).map uv)) (sep (kn I2) A)))))) (fun iv _ => pn - (intOf iv).toNat)
  case atStart => exact ⟨0, none, 0, none, 0, Nat.zero_le _, rfl, Nat.le_refl _, Nat.zero_le _, Nat.le_refl _, Nat.zero_le _, Lib.hid rfl, H4⟩
  case round =>
    clear H4
    obtain ⟨i, ab, cb, ah, ch, hi, rfl, hb1, hb2, hh1, hh2, HWR, HS⟩ := hrel
    have hcbI : (cb : Int) ≤ 9223372036854775807 := by unfold maxLen at hb2; omega
    have hchI : (ch : Int) ≤ 9223372036854775807 := by unfold maxLen at hh2; omega
    by_cases hlt : i < pn
    · /-DEV-/
      have g0 : (i : Int) < (pn : Int) := by omega
      have hip : i < ps.length := by rw [← HP.out.1]; exact hlt
      have hst := wrongP_step (a := a) (b := b) hip
      rw [← HWR.out] at hst
      have hsn := pairE_snoc hip
      obtain ⟨pb, po, va, vc, rfl, hcx, hrv⟩ := pair_ext HP.out.2.1 i hip
      have hprev : ∀ j, j < i → ∃ k, (ps[j]?).map (·.1) = some k ∧ ∀ w', Ext I w' → w'.cell? ⟨pb, po + j * 2, none⟩ = some (.int .i64 k) := by
        intro j hj
        have hjp : j < ps.length := by omega
        obtain ⟨pb2, po2, va2, vc2, e2, hcx2, -⟩ := pair_ext HP.out.2.1 j hjp
        simp only [Option.some.injEq, Addr.mk.injEq, and_true] at e2
        obtain ⟨rfl, rfl⟩ := e2
        exact ⟨ps[j].1, by rw [List.getElem?_eq_getElem hjp]; rfl, fun w' he => (hcx2 w' he).1⟩
      obtain ⟨x1, hx1⟩ : ∃ z, z = ps[i] := ⟨_, rfl⟩
      rw [← hx1] at hcx hst hrv hsn
      obtain ⟨ky, hk1⟩ : ∃ z, z = x1.1 := ⟨_, rfl⟩
      obtain ⟨vl, hvl⟩ : ∃ z, z = x1.2.length := ⟨_, rfl⟩
      rw [← hk1] at hcx hst hsn
      rw [← hvl] at hcx hst hrv
      have hextI : ∀ w', Ext I2 w' → Ext I w' := fun w' he b o hb => he b o (HI2.out b o hb)
      have hd := HS.out.drew
      obtain ⟨wd, hwd⟩ : ∃ z, z = wr.drew := ⟨_, rfl⟩
      rw [← hwd] at hd
      have hE := hextI wd hd.p3.ext
      obtain ⟨f0, f1⟩ := hcx wd hE
      obtain ⟨bd, hbd⟩ : ∃ z, z = bad4 a b ky (prevK ps i) vl := ⟨_, rfl⟩
      have hst2 : wrongP a b ps none = (bd || wrongP a b (ps.drop (i + 1)) (prevK ps (i + 1))) := by rw [hst, hbd]; rfl
      have HD := Lib.hid (And.intro hwd hd)
      have HST := Lib.hid (And.intro hst2 (And.intro hsn (And.intro hrv (And.intro hextI hcx))))
      have HPV := Lib.hid hprev
      have HE := Lib.hid hE
      have HBD := Lib.hid hbd
      have HVL := Lib.hid hvl
      have hS0 : True := trivial
      clear HS HWR hcx hx1 hk1 hvl hwd hd hst hst2 hsn hrv hprev hip hE hextI hbd
      go_upto_region 7 with (fail)
      go_cut [80] (fun tv wx => ∃ z : Bool, tv = .bool z ∧ Hid (z = bd) ∧ wx = wd)
      case first =>
        by_cases c1' : ky < a
        · have c1I : decide (ky < a) = true := decide_eq_true c1'
          refine wp_region_canon rfl (fun _ => True) [(0, .p), (1, .p), (2, .p), (3, .p), (4, .t), (5, .p), (6, .p), (7, .p), (8, .p), (9, .p), (10, .p), (11, .p), (12, .t), (13, .p), (14, .p), (15, .p), (16, .p), (17, .p), (18, .p), (19, .p), (20, .p), (21, .p), (22, .p), (23, .p), (24, .t), (25, .p), (26, .p), (27, .p), (28, .p), (29, .p), (30, .t), (31, .p), (32, .p), (33, .p), (34, .p), (35, .p), (36, .p), (37, .p), (38, .p), (39, .t), (40, .p), (41, .p), (42, .p)] (by kernel_rfl) ?_
          rw [← HD.out.1]
          (repeat ((first | (refine C_p (v := ?_) rfl rfl (fun w' => ?_) ?_; rotate_left; (go_simp; with_reducible rfl)) | (refine C_s (v := ?_) rfl rfl hS0 (fun w' hS => ?_) ?_; rotate_left; ((try dsimp only at hS); go_simp; with_reducible rfl)) | (refine C_t (v := ?_) rfl rfl ?_ ?_; rotate_left; (go_simp; with_reducible rfl)) | (refine C_po rfl rfl ?_) | (refine C_so rfl rfl hS0 ?_) | (refine C_to rfl rfl ?_)); simp only [Act.put, List.setIfInBounds_toArray, List.set_cons_zero, List.set_cons_succ]))
          refine C_nil ?_
          go_wp2_with fail
          go_meet
          exact ⟨_, rfl, Lib.hid (by rw [HBD.out]; unfold bad4; rw [c1I]; rfl), rfl⟩
        have c1I : decide (ky < a) = false := decide_eq_false c1'
        by_cases c2' : b < ky
        · have c2I : decide (b < ky) = true := decide_eq_true c2'
          refine wp_region_canon rfl (fun _ => True) [(0, .p), (1, .p), (2, .p), (3, .p), (4, .t), (5, .p), (6, .p), (7, .p), (8, .p), (9, .p), (10, .p), (11, .p), (12, .t), (13, .p), (14, .p), (15, .p), (16, .p), (17, .p), (18, .p), (19, .p), (20, .p), (21, .p), (22, .p), (23, .p), (24, .t), (25, .p), (26, .p), (27, .p), (28, .p), (29, .p), (30, .t), (31, .p), (32, .p), (33, .p), (34, .p), (35, .p), (36, .p), (37, .p), (38, .p), (39, .t), (40, .p), (41, .p), (42, .p)] (by kernel_rfl) ?_
          rw [← HD.out.1]
          (repeat ((first | (refine C_p (v := ?_) rfl rfl (fun w' => ?_) ?_; rotate_left; (go_simp; with_reducible rfl)) | (refine C_s (v := ?_) rfl rfl hS0 (fun w' hS => ?_) ?_; rotate_left; ((try dsimp only at hS); go_simp; with_reducible rfl)) | (refine C_t (v := ?_) rfl rfl ?_ ?_; rotate_left; (go_simp; with_reducible rfl)) | (refine C_po rfl rfl ?_) | (refine C_so rfl rfl hS0 ?_) | (refine C_to rfl rfl ?_)); simp only [Act.put, List.setIfInBounds_toArray, List.set_cons_zero, List.set_cons_succ]))
          refine C_nil ?_
          go_wp2_with fail
          go_meet
          exact ⟨_, rfl, Lib.hid (by rw [HBD.out]; unfold bad4; rw [c1I, c2I]; rfl), rfl⟩
        have c2I : decide (b < ky) = false := decide_eq_false c2'
        obtain ⟨c4, hc4⟩ : ∃ z, z = decide ((65536 : Int) < (vl : Int)) := ⟨_, rfl⟩
        have c4I : decide ((65536 : Int) < (vl : Int)) = c4 := hc4.symm
        have hc4' : decide (65536 < vl) = c4 := by rw [hc4]; exact decide_eq_decide.2 (by omega)
        have HC4 := Lib.hid hc4'
        clear hc4 hc4'
        by_cases c3' : i = 0
        · subst c3'
          have c3I : decide ((0 : Int) < ((0 : Nat) : Int)) = false := by decide
          have f0' : wd.cell? ⟨pb, po, none⟩ = some (.int .i64 ky) := by simpa using f0
          have f1' : wd.cell? ⟨pb, po + 1, none⟩ = some (.slice va vl vc) := by simpa using f1
          refine wp_region_canon rfl (fun _ => True) [(0, .p), (1, .p), (2, .p), (3, .p), (4, .t), (5, .p), (6, .p), (7, .p), (8, .p), (9, .p), (10, .p), (11, .p), (12, .t), (13, .p), (14, .p), (15, .p), (16, .p), (17, .p), (18, .p), (19, .p), (20, .p), (21, .p), (22, .p), (23, .p), (24, .t), (25, .p), (26, .p), (27, .p), (28, .p), (29, .p), (30, .t), (31, .p), (32, .p), (33, .p), (34, .p), (35, .p), (36, .p), (37, .p), (38, .p), (39, .t), (40, .p), (41, .p), (42, .p)] (by kernel_rfl) ?_
          rw [← HD.out.1]
          (repeat ((first | (refine C_p (v := ?_) rfl rfl (fun w' => ?_) ?_; rotate_left; (go_simp; with_reducible rfl)) | (refine C_s (v := ?_) rfl rfl hS0 (fun w' hS => ?_) ?_; rotate_left; ((try dsimp only at hS); go_simp; with_reducible rfl)) | (refine C_t (v := ?_) rfl rfl ?_ ?_; rotate_left; (go_simp; with_reducible rfl)) | (refine C_po rfl rfl ?_) | (refine C_so rfl rfl hS0 ?_) | (refine C_to rfl rfl ?_)); simp only [Act.put, List.setIfInBounds_toArray, List.set_cons_zero, List.set_cons_succ]))
          refine C_nil ?_
          go_wp2_with fail
          go_meet
          exact ⟨_, rfl, Lib.hid (by rw [HBD.out]; unfold bad4; rw [c1I, c2I, HC4.out]; rfl), rfl⟩
        · obtain ⟨kp, hkp, hkc⟩ := HPV.out (i - 1) (by omega)
          have hpk : prevK ps i = some kp := by unfold prevK; rw [if_neg c3']; exact hkp
          have dp : wd.cell? ⟨pb, po + (i - 1) * 2, none⟩ = some (.int .i64 kp) := hkc wd HE.out
          have c3I : decide (0 < i) = true := decide_eq_true (by omega)
          have hsub : IntKind.i64.wrap ((i : Int) - 1) = ((i - 1 : Nat) : Int) := by rw [IntWalk.i64_in _ (by omega)]; omega
          have hbdd : ((i - 1 : Nat) : Int) < (pn : Int) := by omega
          have HPK := Lib.hid hpk
          clear hkp hkc hpk
          by_cases c5' : ky ≤ kp
          · have c5I : decide (ky ≤ kp) = true := decide_eq_true c5'
            refine wp_region_canon rfl (fun _ => True) [(0, .p), (1, .p), (2, .p), (3, .p), (4, .t), (5, .p), (6, .p), (7, .p), (8, .p), (9, .p), (10, .p), (11, .p), (12, .t), (13, .p), (14, .p), (15, .p), (16, .p), (17, .p), (18, .p), (19, .p), (20, .p), (21, .p), (22, .p), (23, .p), (24, .t), (25, .p), (26, .p), (27, .p), (28, .p), (29, .p), (30, .t), (31, .p), (32, .p), (33, .p), (34, .p), (35, .p), (36, .p), (37, .p), (38, .p), (39, .t), (40, .p), (41, .p), (42, .p)] (by kernel_rfl) ?_
            rw [← HD.out.1]
            (repeat ((first | (refine C_p (v := ?_) rfl rfl (fun w' => ?_) ?_; rotate_left; (go_simp; with_reducible rfl)) | (refine C_s (v := ?_) rfl rfl hS0 (fun w' hS => ?_) ?_; rotate_left; ((try dsimp only at hS); go_simp; with_reducible rfl)) | (refine C_t (v := ?_) rfl rfl ?_ ?_; rotate_left; (go_simp; with_reducible rfl)) | (refine C_po rfl rfl ?_) | (refine C_so rfl rfl hS0 ?_) | (refine C_to rfl rfl ?_)); simp only [Act.put, List.setIfInBounds_toArray, List.set_cons_zero, List.set_cons_succ]))
            refine C_nil ?_
            go_wp2_with fail
            go_meet
            exact ⟨_, rfl, Lib.hid (by rw [HBD.out]; unfold bad4; rw [c1I, c2I, HPK.out]; simp only [c5I]; rfl), rfl⟩
          · have c5I : decide (ky ≤ kp) = false := decide_eq_false c5'
            refine wp_region_canon rfl (fun _ => True) [(0, .p), (1, .p), (2, .p), (3, .p), (4, .t), (5, .p), (6, .p), (7, .p), (8, .p), (9, .p), (10, .p), (11, .p), (12, .t), (13, .p), (14, .p), (15, .p), (16, .p), (17, .p), (18, .p), (19, .p), (20, .p), (21, .p), (22, .p), (23, .p), (24, .t), (25, .p), (26, .p), (27, .p), (28, .p), (29, .p), (30, .t), (31, .p), (32, .p), (33, .p), (34, .p), (35, .p), (36, .p), (37, .p), (38, .p), (39, .t), (40, .p), (41, .p), (42, .p)] (by kernel_rfl) ?_
            rw [← HD.out.1]
            (repeat ((first | (refine C_p (v := ?_) rfl rfl (fun w' => ?_) ?_; rotate_left; (go_simp; with_reducible rfl)) | (refine C_s (v := ?_) rfl rfl hS0 (fun w' hS => ?_) ?_; rotate_left; ((try dsimp only at hS); go_simp; with_reducible rfl)) | (refine C_t (v := ?_) rfl rfl ?_ ?_; rotate_left; (go_simp; with_reducible rfl)) | (refine C_po rfl rfl ?_) | (refine C_so rfl rfl hS0 ?_) | (refine C_to rfl rfl ?_)); simp only [Act.put, List.setIfInBounds_toArray, List.set_cons_zero, List.set_cons_succ]))
            refine C_nil ?_
            go_wp2_with fail
            go_meet
            exact ⟨_, rfl, Lib.hid (by rw [HBD.out]; unfold bad4; rw [c1I, c2I, HPK.out, HC4.out]; simp only [c5I]; rfl), rfl⟩
      case rest =>
        obtain ⟨z, rfl, HZ, rfl⟩ := hcut
        have HFIN : Hid (∀ (w' : World) (ab' : Option Addr) (m' cb' : Nat) (ah' : Option Addr) (ch' m2 : Nat) (X Y : List Value) (J' : Mem), Mem.le I J' → Sat W w' (sep (blk q (.cells #[.slice ab' m' cb', .slice ah' m2 ch'] 145 (0, 0))) (sep (osl 117 2 ab' m' cb' X) (sep (osl 43 1 ah' m2 ch' Y) (sep (kn J') A)))) → Sat W w' (sep (kn I) A)) := Lib.hid (fun w' ab' m' cb' ah' ch' m2 X Y J' hle h => (((h.p3.kn_mono hle).p1.drop).p1.drop).p1.drop)
        cases z with
        | true =>
          have hr : cr = 1 := by rw [HP.out.2.2.1]; unfold checkP; rw [if_neg (by simpa using HAB.out), if_pos (by rw [HST.out.1, ← HZ.out]; rfl)]
          have HR := Lib.hid (And.intro hr (HFIN.out _ _ _ _ _ _ _ _ _ _ HI2.out HD.out.2))
          clear hr HFIN f0 f1
          go_wp2_with fail
          go_ret
          exact ⟨by rw [HR.out.1]; rfl, HR.out.2⟩
        | false =>
          have hvl6 : vl ≤ 65536 := by
            have h1 := HZ.out.trans HBD.out
            unfold bad4 at h1
            have h2 := h1.symm
            simp only [Bool.or_eq_false_iff, decide_eq_false_iff_not] at h2
            omega
          have HWR2 : Hid (wrongP a b ps none = wrongP a b (ps.drop (i + 1)) (prevK ps (i + 1))) := Lib.hid (by rw [HST.out.1, ← HZ.out]; rfl)
          have hd2 := HD.out.2.drew
          obtain ⟨wd2, hwd2⟩ : ∃ z, z = wc.drew := ⟨_, rfl⟩
          rw [← hwd2] at hd2
          clear f0 f1
          obtain ⟨f0, f1⟩ := HST.out.2.2.2.2 wd2 (HST.out.2.2.2.1 wd2 hd2.p3.ext)
          have hS0 : wd2.cell? ⟨q, 0, none⟩ = some (.slice ab i cb) := hd2.cell 0
          have hd3 := hd2.alloc0 (.cells #[.int .i64 ky, .int .i64 1] 117)
          have hS1 : (wd2.alloc (.cells #[.int .i64 ky, .int .i64 1] 117)).cell? ⟨q, 0, none⟩ = some (.slice ab i cb) := hd3.cell 0
          have H3 := Lib.hid hd3
          have HWD2 := Lib.hid hwd2
          clear hd2 hd3 hwd2 HD
          go_wp2_with fail
          refine wp_region_canon rfl (fun w' => w'.cell? ⟨q, 0, none⟩ = some (.slice ab i cb)) [(0, .p), (1, .p), (2, .p), (3, .p), (4, .s), (5, .p), (6, .p), (7, .p), (8, .p), (9, .t), (10, .p), (11, .e true), (12, .e false), (13, .p), (14, .p), (15, .e false)] (by kernel_rfl) ?_
          rw [← HWD2.out]
          (repeat ((first | (refine C_p (v := ?_) rfl rfl (fun w' => ?_) ?_; rotate_left; (go_simp; with_reducible rfl)) | (refine C_s (v := ?_) rfl rfl hS0 (fun w' hS => ?_) ?_; rotate_left; ((try dsimp only at hS); go_simp; with_reducible rfl)) | (refine C_t (v := ?_) rfl rfl ?_ ?_; rotate_left; (go_simp; with_reducible rfl)) | (refine C_po rfl rfl ?_) | (refine C_so rfl rfl hS0 ?_) | (refine C_to rfl rfl ?_)); simp only [Act.put, List.setIfInBounds_toArray, List.set_cons_zero, List.set_cons_succ]))
          (refine C_e rfl rfl (fun K hK => ?_); go_simp)
          (refine hK _ _ (fun _ => hS1) ?_; clear hK K; (try simp only [Act.put, List.setIfInBounds_toArray, List.set_cons_zero, List.set_cons_succ]))
          refine C_e rfl rfl (fun K hK => ?_)
          refine wp_append_osl (.tmp 85) (.tmp 92) 114 rfl 117 2 16 (.agg #[.int .i64 0, .int .i64 0]) Tryd.underlying114 infoQBlock rfl rfl H3.out.p1 rfl [.int .i64 ky, .int .i64 1] rfl (by simp) (by intro b hb; cases hb; exact new_src _ [_, _] _) (by simp [Value.oneCell']) (by omega) (by unfold maxLen; omega) ?_
          intro ab2 cb2 w5 h5
          clear hS0 hS1 H3 f0 f1
          have hsw := h5.swf_of_osl
          have v0 := h5.p1.unfrozen 0
          have s0 : w5.cell? ⟨q, 0, none⟩ = some (.slice ab i cb) := h5.p1.cell 0
          have h6 := h5.p1.setCell 0 (.slice ab2 (i + 1) cb2)
          obtain ⟨w6, hw6⟩ : ∃ z, z = w5.setCell ⟨q, 0, none⟩ (.slice ab2 (i + 1) cb2) := ⟨_, rfl⟩
          rw [← hw6] at h6
          have H6 : Hid (Sat W w6 (sep (blk q (.cells #[.slice ab2 (i + 1) cb2, .slice ah i ch] 145 (0, 0))) (sep (osl 117 2 ab2 (i + 1) cb2 (blkC (List.map (·.1) (pairE (ps.take (i + 1)))))) (sep (osl 43 1 ah i ch ((List.map (·.2) (pairE (ps.take i))).map uv)) (sep (kn I2) A))))) := Lib.hid (by
            rw [HST.out.2.1, List.map_append, blkC_append]
            have e : blkC (List.map (·.1) [((0, ky), leafN ky x1.2)]) = [.int .i64 ky, .int .i64 1] := by
              show blkQ (0, ky) ++ [] = _
              unfold blkQ
              simp
            rw [e]
            exact h6)
          have HW6 := Lib.hid hw6
          have HSW := Lib.hid hsw
          clear h5 h6 hw6 hsw
          (refine hK _ _ (fun h => by cases h) ?_; clear hK K; (try simp only [Act.put, List.setIfInBounds_toArray, List.set_cons_zero, List.set_cons_succ]))
          (repeat ((first | (refine C_p (v := ?_) rfl rfl (fun w' => ?_) ?_; rotate_left; (go_simp; with_reducible rfl)) | (refine C_s (v := ?_) rfl rfl hS0 (fun w' hS => ?_) ?_; rotate_left; ((try dsimp only at hS); go_simp; with_reducible rfl)) | (refine C_t (v := ?_) rfl rfl ?_ ?_; rotate_left; (go_simp; with_reducible rfl)) | (refine C_po rfl rfl ?_) | (refine C_so rfl rfl hS0 ?_) | (refine C_to rfl rfl ?_)); simp only [Act.put, List.setIfInBounds_toArray, List.set_cons_zero, List.set_cons_succ]))
          (refine C_e rfl rfl (fun K hK => ?_); go_simp)
          rw [← HW6.out]
          (refine hK _ _ (fun h => by cases h) ?_; clear hK K; (try simp only [Act.put, List.setIfInBounds_toArray, List.set_cons_zero, List.set_cons_succ]))
          (repeat ((first | (refine C_p (v := ?_) rfl rfl (fun w' => ?_) ?_; rotate_left; (go_simp; with_reducible rfl)) | (refine C_s (v := ?_) rfl rfl hS0 (fun w' hS => ?_) ?_; rotate_left; ((try dsimp only at hS); go_simp; with_reducible rfl)) | (refine C_t (v := ?_) rfl rfl ?_ ?_; rotate_left; (go_simp; with_reducible rfl)) | (refine C_po rfl rfl ?_) | (refine C_so rfl rfl hS0 ?_) | (refine C_to rfl rfl ?_)); simp only [Act.put, List.setIfInBounds_toArray, List.set_cons_zero, List.set_cons_succ]))
          refine C_nil ?_
          clear v0 s0 HW6
          have hd2 := H6.out.drew
          obtain ⟨wd3, hwd3⟩ : ∃ z, z = w6.drew := ⟨_, rfl⟩
          rw [← hwd3] at hd2
          obtain ⟨f0, f1⟩ := HST.out.2.2.2.2 wd3 (HST.out.2.2.2.1 wd3 hd2.p3.ext)
          have hS0 : wd3.cell? ⟨q, 1, none⟩ = some (.slice ah i ch) := hd2.cell 1
          have hlf := qleaf_spec ky (.slice va vl vc) x1.2 hd2.p3 (rBytes.mono HI2.out HST.out.2.2.1) (by rw [← HVL.out]; omega)
          obtain ⟨lf, hlfe⟩ : ∃ z, z = leafN ky x1.2 := ⟨_, rfl⟩
          rw [← hlfe] at hlf
          have HLF := Lib.hid hlf
          have HLE := Lib.hid hlfe
          have HWD3 := Lib.hid hwd3
          clear hd2 hlf hlfe hwd3 H6
          go_wp2_with fail
          refine wp_region_canon rfl (fun w' => w'.cell? ⟨q, 1, none⟩ = some (.slice ah i ch)) [(0, .p), (1, .p), (2, .p), (3, .p), (4, .s), (5, .p), (6, .p), (7, .p), (8, .t), (9, .e true), (10, .e true), (11, .e false), (12, .p), (13, .p), (14, .e false)] (by kernel_rfl) ?_
          rw [← HWD3.out]
          (repeat ((first | (refine C_p (v := ?_) rfl rfl (fun w' => ?_) ?_; rotate_left; (go_simp; with_reducible rfl)) | (refine C_s (v := ?_) rfl rfl hS0 (fun w' hS => ?_) ?_; rotate_left; ((try dsimp only at hS); go_simp; with_reducible rfl)) | (refine C_t (v := ?_) rfl rfl ?_ ?_; rotate_left; (go_simp; with_reducible rfl)) | (refine C_po rfl rfl ?_) | (refine C_so rfl rfl hS0 ?_) | (refine C_to rfl rfl ?_)); simp only [Act.put, List.setIfInBounds_toArray, List.set_cons_zero, List.set_cons_succ]))
          (refine C_e rfl rfl (fun K hK => ?_); go_simp)
          refine HLF.out.mono ?_
          rintro e w7 ⟨rfl, h7⟩
          have hS1 : w7.cell? ⟨q, 1, none⟩ = some (.slice ah i ch) := h7.p1.cell 1
          have hd4 := h7.alloc0 (.cells #[.int .u64 (lf : Int)] 43)
          have hS2 : (w7.alloc (.cells #[.int .u64 (lf : Int)] 43)).cell? ⟨q, 1, none⟩ = some (.slice ah i ch) := hd4.p1.cell 1
          have H4 := Lib.hid hd4
          clear HLF h7 hd4 hS0 f0 f1
          (refine hK _ _ (fun _ => hS1) ?_; clear hK K; (try simp only [Act.put, List.setIfInBounds_toArray, List.set_cons_zero, List.set_cons_succ]))
          clear hS1
          (refine C_e rfl rfl (fun K hK => ?_); go_simp)
          (refine hK _ _ (fun _ => hS2) ?_; clear hK K; (try simp only [Act.put, List.setIfInBounds_toArray, List.set_cons_zero, List.set_cons_succ]))
          refine C_e rfl rfl (fun K hK => ?_)
          refine wp_append_osl (.tmp 100) (.tmp 106) 38 rfl 43 1 8 (.int .u64 0) Tryd.underlying38 infoU64q rfl rfl H4.out.p3 rfl [.int .u64 (lf : Int)] rfl (by simp) (by intro b hb; cases hb; exact new_src _ [_] _) (by simp [Value.oneCell']) (by omega) (by unfold maxLen; omega) ?_
          intro ah2 ch2 w8 h8
          clear hS2 H4
          have hsw := h8.swf_of_osl
          have h8' : Sat W w8 (sep (blk q (.cells #[.slice ab2 (i + 1) cb2, .slice ah i ch] 145 (0, 0))) (sep (osl 117 2 ab2 (i + 1) cb2 (blkC (List.map (·.1) (pairE (ps.take (i + 1)))))) (sep (osl 43 1 ah2 (i + 1) ch2 ((List.map (·.2) (pairE (ps.take i))).map uv ++ [.int .u64 (lf : Int)])) (sep (kn I2) A)))) := by simpa only [sep_comm, sep_lcomm, sep_assoc] using h8
          have v1 := h8'.unfrozen 1
          have s1 : w8.cell? ⟨q, 1, none⟩ = some (.slice ah i ch) := h8'.cell 1
          have h9 := h8'.setCell 1 (.slice ah2 (i + 1) ch2)
          obtain ⟨w9, hw9⟩ : ∃ z, z = w8.setCell ⟨q, 1, none⟩ (.slice ah2 (i + 1) ch2) := ⟨_, rfl⟩
          rw [← hw9] at h9
          have H9 : Hid (Sat W w9 (sep (blk q (.cells #[.slice ab2 (i + 1) cb2, .slice ah2 (i + 1) ch2] 145 (0, 0))) (sep (osl 117 2 ab2 (i + 1) cb2 (blkC (List.map (·.1) (pairE (ps.take (i + 1)))))) (sep (osl 43 1 ah2 (i + 1) ch2 ((List.map (·.2) (pairE (ps.take (i + 1)))).map uv)) (sep (kn I2) A))))) := Lib.hid (by
            have e : (List.map (·.2) (pairE (ps.take (i + 1)))).map uv = (List.map (·.2) (pairE (ps.take i))).map uv ++ [.int .u64 (lf : Int)] := by
              rw [HST.out.2.1, List.map_append, List.map_append, HLE.out]
              rfl
            rw [e]
            exact h9)
          have HW9 := Lib.hid hw9
          have HSW2 := Lib.hid hsw
          clear h8 h8' h9 hw9 hsw
          (refine hK _ _ (fun h => by cases h) ?_; clear hK K; (try simp only [Act.put, List.setIfInBounds_toArray, List.set_cons_zero, List.set_cons_succ]))
          (repeat ((first | (refine C_p (v := ?_) rfl rfl (fun w' => ?_) ?_; rotate_left; (go_simp; with_reducible rfl)) | (refine C_s (v := ?_) rfl rfl hS0 (fun w' hS => ?_) ?_; rotate_left; ((try dsimp only at hS); go_simp; with_reducible rfl)) | (refine C_t (v := ?_) rfl rfl ?_ ?_; rotate_left; (go_simp; with_reducible rfl)) | (refine C_po rfl rfl ?_) | (refine C_so rfl rfl hS0 ?_) | (refine C_to rfl rfl ?_)); simp only [Act.put, List.setIfInBounds_toArray, List.set_cons_zero, List.set_cons_succ]))
          (refine C_e rfl rfl (fun K hK => ?_); go_simp)
          rw [← HW9.out]
          (refine hK _ _ (fun h => by cases h) ?_; clear hK K; (try simp only [Act.put, List.setIfInBounds_toArray, List.set_cons_zero, List.set_cons_succ]))
          (repeat ((first | (refine C_p (v := ?_) rfl rfl (fun w' => ?_) ?_; rotate_left; (go_simp; with_reducible rfl)) | (refine C_s (v := ?_) rfl rfl hS0 (fun w' hS => ?_) ?_; rotate_left; ((try dsimp only at hS); go_simp; with_reducible rfl)) | (refine C_t (v := ?_) rfl rfl ?_ ?_; rotate_left; (go_simp; with_reducible rfl)) | (refine C_po rfl rfl ?_) | (refine C_so rfl rfl hS0 ?_) | (refine C_to rfl rfl ?_)); simp only [Act.put, List.setIfInBounds_toArray, List.set_cons_zero, List.set_cons_succ]))
          refine C_nil ?_
          clear v1 s1 HW9
          go_wp2_with fail
          go_roundw
          case rel => exact ⟨i + 1, ab2, cb2, ah2, ch2, by omega, by go_num, HSW.out.1, HSW.out.2.1, HSW2.out.1, HSW2.out.2.1, HWR2, H9⟩
          case measure => simp only [intOf]; omega
      /-VED-/
    · obtain rfl : i = pn := by omega
      have g0 : ¬ (i : Int) < (i : Int) := by omega
      have hdr : ps.drop i = [] := List.drop_of_length_le (by rw [HP.out.1]; exact Nat.le_refl _)
      have htk : ps.take i = ps := List.take_of_length_le (by rw [HP.out.1]; exact Nat.le_refl _)
      have hwf : wrongP a b ps none = false := by rw [HWR.out, hdr]; rfl
      have HWF := Lib.hid hwf
      have hS : Sat W wr (sep (blk q (.cells #[.slice ab i cb, .slice ah i ch] 145 (0, 0))) (sep (osl 117 2 ab i cb (blkC (List.map (·.1) (pairE ps)))) (sep (osl 43 1 ah i ch ((List.map (·.2) (pairE ps)).map uv)) (sep (kn I2) A)))) := by have := HS.out; rw [htk] at this; exact this
      have hO := qoutside_all (W := W) HAB.out 12 0 inT_top hS
      rw [show (0 : Int) * 2 ^ 12 = 0 by decide, show (2 : Int) ^ 12 = 4096 by decide] at hO
      have HO := Lib.hid hO
      have HFIN : Hid (∀ (w' : World) (ab' : Option Addr) (m' cb' : Nat) (ah' : Option Addr) (ch' m2 : Nat) (X Y : List Value) (J' : Mem), Mem.le I J' → Sat W w' (sep (blk q (.cells #[.slice ab' m' cb', .slice ah' m2 ch'] 145 (0, 0))) (sep (osl 117 2 ab' m' cb' X) (sep (osl 43 1 ah' m2 ch' Y) (sep (kn J') A)))) → Sat W w' (sep (kn I) A)) := Lib.hid (fun w' ab' m' cb' ah' ch' m2 X Y J' hle h => (((h.p3.kn_mono hle).p1.drop).p1.drop).p1.drop)
      have HFORM : Hid (formP a b ps p = none → cr = 2) := Lib.hid (fun hf => by
        rw [HP.out.2.2.1]; unfold checkP; rw [if_neg (by simpa using HAB.out), if_neg (by rw [HWF.out]; simp), hf])
      have hi1000 : i ≤ 1000 := hpn6
      clear HS HWR hwf hS hO hdr htk hlt hi
      go_wp2_with fail
      refine HO.out.mono ?_
      rintro e w3 ⟨ad, cd, rfl, h3⟩
      obtain ⟨xs, hxs⟩ : ∃ z, z = outL a b 12 0 := ⟨_, rfl⟩
      rw [← hxs] at h3 ⊢
      obtain ⟨nO, hnO⟩ : ∃ z, z = xs.length := ⟨_, rfl⟩
      rw [← hnO] at h3 ⊢
      have hswd := h3.swf_of_osl
      obtain ⟨J4, hJ4, hcd, h4⟩ := (show Sat W w3 (sep (rsl ad (blkC xs)) (sep (kn I2) (sep (blk q (.cells #[.slice ab i cb, .slice ah i ch] 145 (0, 0))) (sep (osl 117 2 ab i cb (blkC (List.map (·.1) (pairE ps)))) (sep (osl 43 1 ah i ch ((List.map (·.2) (pairE ps)).map uv)) A))))) by
        have := h3.osl_settle
        simpa only [sep_comm, sep_lcomm, sep_assoc] using this).learn
      have h5 : Sat W w3 (sep (blk q (.cells #[.slice ab i cb, .slice ah i ch] 145 (0, 0))) (sep (osl 117 2 ab i cb (blkC (List.map (·.1) (pairE ps)))) (sep (osl 43 1 ah i ch ((List.map (·.2) (pairE ps)).map uv)) (sep (kn J4) A)))) := by simpa only [sep_comm, sep_lcomm, sep_assoc] using h4
      have hnO4 : nO ≤ 4096 := by rw [hnO, hxs]; exact outL_top a b
      have hcdI : (cd : Int) ≤ 9223372036854775807 := by have := hswd.2.1; unfold maxLen at this; omega
      have hcd1 := hswd.1
      have HXS := Lib.hid (And.intro hxs (And.intro hnO hcd))
      have HJ4 := Lib.hid hJ4
      have H5 := Lib.hid h5
      have c92 : w3.cell? ⟨t9, 2, none⟩ = some (.slice a3 n3 c3) := (HT9.out w3 (fun b o hb => h5.p3.ext b o (hJ4 b o hb))).2.2
      clear HO h3 h4 h5 hxs hnO hcd hswd hJ4
      by_cases hN : nO = n3
      · subst hN
        have gN : ((nO : Int) != (nO : Int)) = false := by simp
        go_wp2_with fail
        go_loopw [14, 15, 16] (fun lv rv iv wr => ∃ (j lf rt m : Nat) (t : KSt) (ab : Option Addr) (cb : Nat) (ah : Option Addr) (ch : Nat), j ≤ nO ∧ lf ≤ n1 ∧ rt ≤ n2 ∧ m ≤ i + j ∧ lv = .int .i64 (lf : Nat) ∧ rv = .int .i64 (rt : Nat) ∧ iv = .int .i64 (j : Nat) ∧ m ≤ cb ∧ cb ≤ maxLen ∧ m ≤ ch ∧ ch ≤ maxLen ∧
          Hid (knF b p.s ⟨0, fun _ => none, p.l, p.r⟩ (xs.take j) = some t ∧ t.i = j ∧ t.l = p.l.drop lf ∧ t.r = p.r.drop rt ∧ m = (pairE ps ++ entE t.K (xs.take j)).length) ∧ Hid (Sat W wr (sep (blk q (.cells #[.slice ab m cb, .slice ah m ch] 145 (0, 0))) (sep (osl 117 2 ab m cb (blkC (List.map (·.1) (pairE ps ++ entE t.K (xs.take j))))) (sep (osl 43 1 ah m ch ((List.map (·.2) (pairE ps ++ entE t.K (xs.take j))).map uv)) (sep (kn J4) A)))))) (fun _ _ iv _ => nO - (intOf iv).toNat)
        case atStart =>
          refine ⟨0, 0, 0, i, ⟨0, fun _ => none, p.l, p.r⟩, ab, cb, ah, ch, Nat.zero_le _, Nat.zero_le _, Nat.zero_le _, Nat.le_refl _, rfl, rfl, rfl, hb1, hb2, hh1, hh2, Lib.hid ⟨knF_nil _ _ _, rfl, rfl, rfl, ?_⟩, ?_⟩
          · show i = (pairE ps ++ []).length
            rw [List.append_nil]; unfold pairE; rw [List.length_map]; exact HP.out.1
          · show Hid (Sat W w3 (sep (blk q (.cells #[.slice ab i cb, .slice ah i ch] 145 (0, 0))) (sep (osl 117 2 ab i cb (blkC (List.map (·.1) (pairE ps ++ [])))) (sep (osl 43 1 ah i ch ((List.map (·.2) (pairE ps ++ [])).map uv)) (sep (kn J4) A)))))
            rw [List.append_nil]
            exact H5
        case round =>
          clear H5 c92 hb1 hb2 hh1 hh2 hcbI hchI
          obtain ⟨j, lf, rt, m, t, ab, cb, ah, ch, hj, hlf, hrt, hm, rfl, rfl, rfl, hb1, hb2, hh1, hh2, HT, HS⟩ := hrel
          have hcbI : (cb : Int) ≤ 9223372036854775807 := by unfold maxLen at hb2; omega
          have hchI : (ch : Int) ≤ 9223372036854775807 := by unfold maxLen at hh2; omega
          have hext := HS.out.p3.ext
          obtain ⟨c90, c91, c92⟩ := HT9.out wr (fun b o hb => hext b o (HJ4.out b o hb))
          by_cases hlt : j < nO
          · have g1 : (j : Int) < (nO : Int) := by omega
            have hjx : j < xs.length := by rw [← HXS.out.2.1]; exact hlt
            have hjs : j < p.s.length := by rw [← HP.out.2.2.2.2.2.2]; exact hlt
            have htk := List.take_succ_eq_append_getElem hjx
            have hkn : knF b p.s ⟨0, fun _ => none, p.l, p.r⟩ (xs.take (j + 1)) = stepK b p.s xs[j] t := by rw [htk, knF_snoc, HT.out.1]; rfl
            have hnx := nodup_take (by rw [HXS.out.1]; exact outL_nodup 12 0) hjx
            have hside := out_side HAB.out.2.1 (x := xs[j]) (by rw [← HXS.out.1]; exact List.getElem_mem hjx)
            have hbad : stepK b p.s xs[j] t = none → cr = 2 := fun hs => HFORM.out (by
              have h1 := knF_stop (xs.drop (j + 1)) (hkn.trans hs)
              rw [List.take_append_drop] at h1
              unfold formP
              rw [← HXS.out.1, h1])
            have hget : p.s[t.i]? = some p.s[j] := by rw [HT.out.2.1]; exact List.getElem?_eq_getElem hjs
            have hstep : stepK b p.s xs[j] t = if 1 < p.s[j] then none else if p.s[j] = 1 then
                (if b < bFirst xs[j] then (match t.r with | [] => none | h :: r => some ⟨t.i + 1, kset t.K xs[j] (some h), t.l, r⟩)
                 else (match t.l with | [] => none | h :: l => some ⟨t.i + 1, kset t.K xs[j] (some h), l, t.r⟩))
              else some ⟨t.i + 1, kset t.K xs[j] none, t.l, t.r⟩ := by unfold stepK; rw [hget]; rfl
            obtain ⟨sb, so, e3, hsc⟩ := HL.out.2.2 j hjs
            subst e3
            have f3 := hsc wr (fun b o hb => hext b o (HJ4.out b o (HI2.out b o hb)))
            obtain ⟨xb, xo, exd, hxc⟩ := cells_ext HXS.out.2.2 (fun e => by have := congrArg List.length e; rw [blkC_len, List.length_nil] at this; omega)
            subst exd
            have hxcell : ∀ w', Ext J4 w' → w'.cell? ⟨xb, xo + j * 2, none⟩ = some (.int .i64 (bFirst xs[j])) ∧ w'.cell? ⟨xb, xo + j * 2 + 1, none⟩ = some (.int .i64 (2 ^ xs[j].1)) := fun w' he => by
              obtain ⟨g0, g1⟩ := blkC_get xs j hjx
              refine ⟨hxc w' he _ _ g0, ?_⟩
              have := hxc w' he _ _ g1
              rw [← Nat.add_assoc] at this
              exact this
            obtain ⟨x, hx⟩ : ∃ z, z = xs[j] := ⟨_, rfl⟩
            rw [← hx] at hkn hnx hside hbad hstep hxcell htk
            obtain ⟨sv, hsv⟩ : ∃ z, z = p.s[j] := ⟨_, rfl⟩
            rw [← hsv] at hstep f3
            obtain ⟨svn, hsvn⟩ : ∃ z, z = sv.toNat := ⟨_, rfl⟩
            rw [← hsvn] at f3
            obtain ⟨fx, hfx⟩ : ∃ z, z = bFirst x := ⟨_, rfl⟩
            obtain ⟨zx, hzx⟩ : ∃ z : Int, z = 2 ^ x.1 := ⟨_, rfl⟩
            rw [← hfx] at hside hxcell hstep
            rw [← hzx] at hxcell
            have HSTEP := Lib.hid (And.intro hstep (And.intro hbad (And.intro hkn (And.intro hnx (And.intro hside (And.intro htk (And.intro hsvn (And.intro hfx hzx))))))))
            have HXC := Lib.hid hxcell
            clear hkn hnx hside hbad hstep hxcell htk hget hx hsv hsvn hfx hzx hsc hxc hjs hjx hext
            by_cases c1' : 1 < svn
            · have hr : cr = 2 := HSTEP.out.2.1 (by rw [HSTEP.out.1, if_pos (by rw [UInt8.lt_iff_toNat_lt, ← HSTEP.out.2.2.2.2.2.2.1]; exact c1')])
              have g2 : (svn : Int) > 1 := by omega
              have HR := Lib.hid (And.intro hr (HFIN.out _ _ _ _ _ _ _ _ _ _ (Mem.le_trans HI2.out HJ4.out) HS.out))
              clear hr HFIN HS
              go_wp2_with fail
              go_ret
              exact ⟨by rw [HR.out.1]; rfl, HR.out.2⟩
            · by_cases c0' : svn = 0
              · have hst : stepK b p.s x t = some ⟨t.i + 1, kset t.K x none, t.l, t.r⟩ := by
                  rw [HSTEP.out.1, if_neg (by rw [UInt8.lt_iff_toNat_lt, ← HSTEP.out.2.2.2.2.2.2.1]; exact c1'), if_neg (by rw [← UInt8.toNat_inj, ← HSTEP.out.2.2.2.2.2.2.1, c0']; decide)]
                have HNX : Hid (knF b p.s ⟨0, fun _ => none, p.l, p.r⟩ (xs.take (j + 1)) = some ⟨t.i + 1, kset t.K x none, t.l, t.r⟩) := Lib.hid (HSTEP.out.2.2.1.trans hst)
                have hEn : entE (kset t.K x none) (xs.take (j + 1)) = entE t.K (xs.take j) := by rw [HSTEP.out.2.2.2.2.2.1, entE_no HSTEP.out.2.2.2.1]
                have H9 : Hid (Sat W wr (sep (blk q (.cells #[.slice ab m cb, .slice ah m ch] 145 (0, 0))) (sep (osl 117 2 ab m cb (blkC (List.map (·.1) (pairE ps ++ entE (kset t.K x none) (xs.take (j + 1)))))) (sep (osl 43 1 ah m ch ((List.map (·.2) (pairE ps ++ entE (kset t.K x none) (xs.take (j + 1)))).map uv)) (sep (kn J4) A))))) := Lib.hid (by rw [hEn]; exact HS.out)
                have HML : Hid (m = (pairE ps ++ entE (kset t.K x none) (xs.take (j + 1))).length) := Lib.hid (by rw [hEn]; exact HT.out.2.2.2.2)
                have g2 : ¬ (svn : Int) > 1 := by omega
                have g3 : ((svn : Int) == 0) = true := by simp [c0']
                clear hst hEn HS c0' c1'
                go_wp2_with fail
                go_roundw
                case rel => exact ⟨j + 1, lf, rt, m, ⟨t.i + 1, kset t.K x none, t.l, t.r⟩, ab, cb, ah, ch, by omega, by omega, by omega, by omega, rfl, rfl, by go_num, hb1, hb2, hh1, hh2, Lib.hid ⟨HNX.out, by rw [← HT.out.2.1], HT.out.2.2.1, HT.out.2.2.2.1, HML.out⟩, H9⟩
                case measure => simp only [intOf]; omega
              · have hs1 : ¬ 1 < sv := by rw [UInt8.lt_iff_toNat_lt, ← HSTEP.out.2.2.2.2.2.2.1]; exact c1'
                have hs2 : sv = 1 := by rw [← UInt8.toNat_inj, ← HSTEP.out.2.2.2.2.2.2.1]; show svn = 1; omega
                have g2 : ¬ (svn : Int) > 1 := by omega
                have g3 : ((svn : Int) == 0) = false := by simp; omega
                have hd2 := HS.out.drew
                obtain ⟨wd2, hwd2⟩ : ∃ z, z = wr.drew := ⟨_, rfl⟩
                rw [← hwd2] at hd2
                obtain ⟨f0, f1⟩ := HXC.out wd2 hd2.p3.ext
                have hS0 : wd2.cell? ⟨q, 0, none⟩ = some (.slice ab m cb) := hd2.cell 0
                have hd3 := hd2.alloc0 (.cells #[.int .i64 fx, .int .i64 zx] 117)
                have hS1 : (wd2.alloc (.cells #[.int .i64 fx, .int .i64 zx] 117)).cell? ⟨q, 0, none⟩ = some (.slice ab m cb) := hd3.cell 0
                have H3 := Lib.hid hd3
                have HWD2 := Lib.hid hwd2
                clear hd2 hd3 hwd2 HS c0' c1'
                go_wp2_with fail
                refine wp_region_canon rfl (fun w' => w'.cell? ⟨q, 0, none⟩ = some (.slice ab m cb)) [(0, .p), (1, .p), (2, .p), (3, .p), (4, .s), (5, .p), (6, .p), (7, .p), (8, .t), (9, .e true), (10, .e false), (11, .p), (12, .p), (13, .e false)] (by kernel_rfl) ?_
                rw [← HWD2.out]
                (repeat ((first | (refine C_p (v := ?_) rfl rfl (fun w' => ?_) ?_; rotate_left; (go_simp; with_reducible rfl)) | (refine C_s (v := ?_) rfl rfl hS0 (fun w' hS => ?_) ?_; rotate_left; ((try dsimp only at hS); go_simp; with_reducible rfl)) | (refine C_t (v := ?_) rfl rfl ?_ ?_; rotate_left; (go_simp; with_reducible rfl)) | (refine C_po rfl rfl ?_) | (refine C_so rfl rfl hS0 ?_) | (refine C_to rfl rfl ?_)); simp only [Act.put, List.setIfInBounds_toArray, List.set_cons_zero, List.set_cons_succ]))
                (refine C_e rfl rfl (fun K hK => ?_); go_simp)
                (refine hK _ _ (fun _ => hS1) ?_; clear hK K; (try simp only [Act.put, List.setIfInBounds_toArray, List.set_cons_zero, List.set_cons_succ]))
                refine C_e rfl rfl (fun K hK => ?_)
                refine wp_append_osl (.tmp 142) (.tmp 147) 114 rfl 117 2 16 (.agg #[.int .i64 0, .int .i64 0]) Tryd.underlying114 infoQBlock rfl rfl H3.out.p1 rfl [.int .i64 fx, .int .i64 zx] rfl (by simp) (by intro b hb; cases hb; exact new_src _ [_, _] _) (by simp [Value.oneCell']) (by omega) (by unfold maxLen; omega) ?_
                intro ab2 cb2 w5 h5
                clear hS0 hS1 H3 f0 f1 c90 c91 c92 f3
                have hsw := h5.swf_of_osl
                have v0 := h5.p1.unfrozen 0
                have s0 : w5.cell? ⟨q, 0, none⟩ = some (.slice ab m cb) := h5.p1.cell 0
                have h6 := h5.p1.setCell 0 (.slice ab2 (m + 1) cb2)
                obtain ⟨w6, hw6⟩ : ∃ z, z = w5.setCell ⟨q, 0, none⟩ (.slice ab2 (m + 1) cb2) := ⟨_, rfl⟩
                rw [← hw6] at h6
                have H6 : Hid (Sat W w6 (sep (blk q (.cells #[.slice ab2 (m + 1) cb2, .slice ah m ch] 145 (0, 0))) (sep (osl 117 2 ab2 (m + 1) cb2 (blkC (List.map (·.1) (pairE ps ++ entE t.K (xs.take j)) ++ [x]))) (sep (osl 43 1 ah m ch ((List.map (·.2) (pairE ps ++ entE t.K (xs.take j))).map uv)) (sep (kn J4) A))))) := Lib.hid (by
                  rw [blkC_append]
                  have e : blkC [x] = [.int .i64 fx, .int .i64 zx] := by
                    rw [HSTEP.out.2.2.2.2.2.2.2.1, HSTEP.out.2.2.2.2.2.2.2.2]
                    rfl
                  rw [e]
                  exact h6)
                have HW6 := Lib.hid hw6
                have HSW := Lib.hid hsw
                clear h5 h6 hw6 hsw
                (refine hK _ _ (fun h => by cases h) ?_; clear hK K; (try simp only [Act.put, List.setIfInBounds_toArray, List.set_cons_zero, List.set_cons_succ]))
                (repeat ((first | (refine C_p (v := ?_) rfl rfl (fun w' => ?_) ?_; rotate_left; (go_simp; with_reducible rfl)) | (refine C_s (v := ?_) rfl rfl hS0 (fun w' hS => ?_) ?_; rotate_left; ((try dsimp only at hS); go_simp; with_reducible rfl)) | (refine C_t (v := ?_) rfl rfl ?_ ?_; rotate_left; (go_simp; with_reducible rfl)) | (refine C_po rfl rfl ?_) | (refine C_so rfl rfl hS0 ?_) | (refine C_to rfl rfl ?_)); simp only [Act.put, List.setIfInBounds_toArray, List.set_cons_zero, List.set_cons_succ]))
                (refine C_e rfl rfl (fun K hK => ?_); go_simp)
                rw [← HW6.out]
                (refine hK _ _ (fun h => by cases h) ?_; clear hK K; (try simp only [Act.put, List.setIfInBounds_toArray, List.set_cons_zero, List.set_cons_succ]))
                (repeat ((first | (refine C_p (v := ?_) rfl rfl (fun w' => ?_) ?_; rotate_left; (go_simp; with_reducible rfl)) | (refine C_s (v := ?_) rfl rfl hS0 (fun w' hS => ?_) ?_; rotate_left; ((try dsimp only at hS); go_simp; with_reducible rfl)) | (refine C_t (v := ?_) rfl rfl ?_ ?_; rotate_left; (go_simp; with_reducible rfl)) | (refine C_po rfl rfl ?_) | (refine C_so rfl rfl hS0 ?_) | (refine C_to rfl rfl ?_)); simp only [Act.put, List.setIfInBounds_toArray, List.set_cons_zero, List.set_cons_succ]))
                refine C_nil ?_
                clear v0 s0 HW6
                by_cases g4 : fx < a
                · have hsd : ¬ b < fx := by have := HSTEP.out.2.2.2.2.1; omega
                  by_cases hlr : lf < n1
                  · have g5 : ¬ (lf : Int) ≥ (n1 : Int) := by omega
                    have hlp : lf < p.l.length := by rw [← HP.out.2.2.2.2.1]; exact hlr
                    obtain ⟨hb', ho', eha, hhc⟩ := HL.out.1 lf hlp
                    obtain ⟨hv, hhv⟩ : ∃ z, z = p.l[lf] := ⟨_, rfl⟩
                    rw [← hhv] at hhc
                    have htl : t.l = hv :: p.l.drop (lf + 1) := by rw [HT.out.2.2.1, hhv]; exact List.drop_eq_getElem_cons hlp
                    have hst : stepK b p.s x t = some ⟨t.i + 1, kset t.K x (some hv), p.l.drop (lf + 1), t.r⟩ := by
                      rw [HSTEP.out.1, if_neg hs1, if_pos hs2]
                      rw [if_neg hsd]
                      rw [htl]
                    have HNX : Hid (knF b p.s ⟨0, fun _ => none, p.l, p.r⟩ (xs.take (j + 1)) = some ⟨t.i + 1, kset t.K x (some hv), p.l.drop (lf + 1), t.r⟩) := Lib.hid (HSTEP.out.2.2.1.trans hst)
                    have HHC := Lib.hid hhc
                    have HEA := Lib.hid eha
                    clear hhv htl hst hlp hhc
                    have hext := H6.out.p3.ext
                    obtain ⟨d90, d91, d92⟩ := HT9.out w6 (fun b o hb => hext b o (HJ4.out b o hb))
                    obtain ⟨f0, f1⟩ := HXC.out w6 hext
                    have hd2 := H6.out.drew
                    obtain ⟨wd3, hwd3⟩ : ∃ z, z = w6.drew := ⟨_, rfl⟩
                    rw [← hwd3] at hd2
                    have hext3 := hd2.p3.ext
                    obtain ⟨e90, e91, e92⟩ := HT9.out wd3 (fun b o hb => hext3 b o (HJ4.out b o hb))
                    have f5 := HHC.out wd3 (fun b o hb => hext3 b o (HJ4.out b o (HI2.out b o hb)))
                    have hS0 : wd3.cell? ⟨q, 1, none⟩ = some (.slice ah m ch) := hd2.cell 1
                    have hd4 := hd2.alloc0 (.cells #[.int .u64 (hv : Int)] 43)
                    have hS2 : (wd3.alloc (.cells #[.int .u64 (hv : Int)] 43)).cell? ⟨q, 1, none⟩ = some (.slice ah m ch) := hd4.cell 1
                    have H4 := Lib.hid hd4
                    have HWD3 := Lib.hid hwd3
                    clear hd2 hd4 hwd3 H6 hext hext3
                    subst eha
                    go_wp2_with fail
                    refine wp_region_canon rfl (fun w' => w'.cell? ⟨q, 1, none⟩ = some (.slice ah m ch)) [(0, .p), (1, .p), (2, .p), (3, .p), (4, .s), (5, .p), (6, .t), (7, .p), (8, .p), (9, .t), (10, .e true), (11, .e false), (12, .p), (13, .p), (14, .e false)] (by kernel_rfl) ?_
                    rw [← HWD3.out]
                    (repeat ((first | (refine C_p (v := ?_) rfl rfl (fun w' => ?_) ?_; rotate_left; (go_simp; with_reducible rfl)) | (refine C_s (v := ?_) rfl rfl hS0 (fun w' hS => ?_) ?_; rotate_left; ((try dsimp only at hS); go_simp; with_reducible rfl)) | (refine C_t (v := ?_) rfl rfl ?_ ?_; rotate_left; (go_simp; with_reducible rfl)) | (refine C_po rfl rfl ?_) | (refine C_so rfl rfl hS0 ?_) | (refine C_to rfl rfl ?_)); simp only [Act.put, List.setIfInBounds_toArray, List.set_cons_zero, List.set_cons_succ]))
                    (refine C_e rfl rfl (fun K hK => ?_); go_simp)
                    (refine hK _ _ (fun _ => hS2) ?_; clear hK K; (try simp only [Act.put, List.setIfInBounds_toArray, List.set_cons_zero, List.set_cons_succ]))
                    refine C_e rfl rfl (fun K hK => ?_)
                    refine wp_append_osl (.tmp 167) (.tmp 173) 38 rfl 43 1 8 (.int .u64 0) Tryd.underlying38 infoU64q rfl rfl H4.out.p2 rfl [.int .u64 (hv : Int)] rfl (by simp) (by intro b hb; cases hb; exact new_src _ [_] _) (by simp [Value.oneCell']) (by omega) (by unfold maxLen; omega) ?_
                    intro ah2 ch2 w8 h8
                    clear hS2 H4 hS0 d90 d91 d92 e90 e91 e92 f0 f1 f5
                    have hsw := h8.swf_of_osl
                    have h8' : Sat W w8 (sep (blk q (.cells #[.slice ab2 (m + 1) cb2, .slice ah m ch] 145 (0, 0))) (sep (osl 117 2 ab2 (m + 1) cb2 (blkC (List.map (·.1) (pairE ps ++ entE t.K (xs.take j)) ++ [x]))) (sep (osl 43 1 ah2 (m + 1) ch2 ((List.map (·.2) (pairE ps ++ entE t.K (xs.take j))).map uv ++ [.int .u64 (hv : Int)])) (sep (kn J4) A)))) := by simpa only [sep_comm, sep_lcomm, sep_assoc] using h8
                    have v1 := h8'.unfrozen 1
                    have s1 : w8.cell? ⟨q, 1, none⟩ = some (.slice ah m ch) := h8'.cell 1
                    have h9 := h8'.setCell 1 (.slice ah2 (m + 1) ch2)
                    obtain ⟨w9, hw9⟩ : ∃ z, z = w8.setCell ⟨q, 1, none⟩ (.slice ah2 (m + 1) ch2) := ⟨_, rfl⟩
                    rw [← hw9] at h9
                    have hEn : pairE ps ++ entE (kset t.K x (some hv)) (xs.take (j + 1)) = (pairE ps ++ entE t.K (xs.take j)) ++ [(x, hv)] := by
                      rw [HSTEP.out.2.2.2.2.2.1, entE_so hv HSTEP.out.2.2.2.1, List.append_assoc]
                    have H9 : Hid (Sat W w9 (sep (blk q (.cells #[.slice ab2 (m + 1) cb2, .slice ah2 (m + 1) ch2] 145 (0, 0))) (sep (osl 117 2 ab2 (m + 1) cb2 (blkC (List.map (·.1) (pairE ps ++ entE (kset t.K x (some hv)) (xs.take (j + 1)))))) (sep (osl 43 1 ah2 (m + 1) ch2 ((List.map (·.2) (pairE ps ++ entE (kset t.K x (some hv)) (xs.take (j + 1)))).map uv)) (sep (kn J4) A))))) := Lib.hid (by
                      have e1 : ∀ X : KEs, List.map (·.1) (X ++ [(x, hv)]) = List.map (·.1) X ++ [x] := fun X => by rw [List.map_append]; rfl
                      have e2 : ∀ X : KEs, (List.map (·.2) (X ++ [(x, hv)])).map uv = (List.map (·.2) X).map uv ++ [.int .u64 (hv : Int)] := fun X => by rw [List.map_append, List.map_append]; rfl
                      rw [hEn, e1, e2]
                      exact h9)
                    have HML : Hid (m + 1 = (pairE ps ++ entE (kset t.K x (some hv)) (xs.take (j + 1))).length) := Lib.hid (by rw [hEn, List.length_append, ← HT.out.2.2.2.2]; rfl)
                    have HW9 := Lib.hid hw9
                    have HSW2 := Lib.hid hsw
                    clear h8 h8' h9 hw9 hsw hEn
                    (refine hK _ _ (fun h => by cases h) ?_; clear hK K; (try simp only [Act.put, List.setIfInBounds_toArray, List.set_cons_zero, List.set_cons_succ]))
                    (repeat ((first | (refine C_p (v := ?_) rfl rfl (fun w' => ?_) ?_; rotate_left; (go_simp; with_reducible rfl)) | (refine C_s (v := ?_) rfl rfl hS0 (fun w' hS => ?_) ?_; rotate_left; ((try dsimp only at hS); go_simp; with_reducible rfl)) | (refine C_t (v := ?_) rfl rfl ?_ ?_; rotate_left; (go_simp; with_reducible rfl)) | (refine C_po rfl rfl ?_) | (refine C_so rfl rfl hS0 ?_) | (refine C_to rfl rfl ?_)); simp only [Act.put, List.setIfInBounds_toArray, List.set_cons_zero, List.set_cons_succ]))
                    (refine C_e rfl rfl (fun K hK => ?_); go_simp)
                    rw [← HW9.out]
                    (refine hK _ _ (fun h => by cases h) ?_; clear hK K; (try simp only [Act.put, List.setIfInBounds_toArray, List.set_cons_zero, List.set_cons_succ]))
                    (repeat ((first | (refine C_p (v := ?_) rfl rfl (fun w' => ?_) ?_; rotate_left; (go_simp; with_reducible rfl)) | (refine C_s (v := ?_) rfl rfl hS0 (fun w' hS => ?_) ?_; rotate_left; ((try dsimp only at hS); go_simp; with_reducible rfl)) | (refine C_t (v := ?_) rfl rfl ?_ ?_; rotate_left; (go_simp; with_reducible rfl)) | (refine C_po rfl rfl ?_) | (refine C_so rfl rfl hS0 ?_) | (refine C_to rfl rfl ?_)); simp only [Act.put, List.setIfInBounds_toArray, List.set_cons_zero, List.set_cons_succ]))
                    refine C_nil ?_
                    clear v1 s1 HW9
                    go_wp2_with fail
                    go_roundw
                    case rel => exact ⟨j + 1, lf + 1, rt, m + 1, ⟨t.i + 1, kset t.K x (some hv), p.l.drop (lf + 1), t.r⟩, ab2, cb2, ah2, ch2, by omega, by omega, by omega, by omega, by go_num, by go_num, by go_num, HSW.out.1, HSW.out.2.1, HSW2.out.1, HSW2.out.2.1, Lib.hid ⟨HNX.out, by rw [← HT.out.2.1], rfl, HT.out.2.2.2.1, HML.out⟩, H9⟩
                    case measure => simp only [intOf]; omega
                  · have g5 : (lf : Int) ≥ (n1 : Int) := by omega
                    have htl : t.l = [] := by rw [HT.out.2.2.1]; exact List.drop_of_length_le (by rw [← HP.out.2.2.2.2.1]; omega)
                    have hr : cr = 2 := HSTEP.out.2.1 (by
                      rw [HSTEP.out.1, if_neg hs1, if_pos hs2]
                      rw [if_neg hsd]
                      rw [htl])
                    have HR := Lib.hid (And.intro hr (HFIN.out _ _ _ _ _ _ _ _ _ _ (Mem.le_trans HI2.out HJ4.out) H6.out))
                    have hext := H6.out.p3.ext
                    obtain ⟨d90, d91, d92⟩ := HT9.out w6 (fun b o hb => hext b o (HJ4.out b o hb))
                    obtain ⟨f0, f1⟩ := HXC.out w6 hext
                    clear hr HFIN H6 hext htl
                    go_wp2_with fail
                    go_ret
                    exact ⟨by rw [HR.out.1]; rfl, HR.out.2⟩
                · have hsd : b < fx := by have := HSTEP.out.2.2.2.2.1; omega
                  by_cases hlr : rt < n2
                  · have g5 : ¬ (rt : Int) ≥ (n2 : Int) := by omega
                    have hlp : rt < p.r.length := by rw [← HP.out.2.2.2.2.2.1]; exact hlr
                    obtain ⟨hb', ho', eha, hhc⟩ := HL.out.2.1 rt hlp
                    obtain ⟨hv, hhv⟩ : ∃ z, z = p.r[rt] := ⟨_, rfl⟩
                    rw [← hhv] at hhc
                    have htl : t.r = hv :: p.r.drop (rt + 1) := by rw [HT.out.2.2.2.1, hhv]; exact List.drop_eq_getElem_cons hlp
                    have hst : stepK b p.s x t = some ⟨t.i + 1, kset t.K x (some hv), t.l, p.r.drop (rt + 1)⟩ := by
                      rw [HSTEP.out.1, if_neg hs1, if_pos hs2]
                      rw [if_pos hsd]
                      rw [htl]
                    have HNX : Hid (knF b p.s ⟨0, fun _ => none, p.l, p.r⟩ (xs.take (j + 1)) = some ⟨t.i + 1, kset t.K x (some hv), t.l, p.r.drop (rt + 1)⟩) := Lib.hid (HSTEP.out.2.2.1.trans hst)
                    have HHC := Lib.hid hhc
                    have HEA := Lib.hid eha
                    clear hhv htl hst hlp hhc
                    have hext := H6.out.p3.ext
                    obtain ⟨d90, d91, d92⟩ := HT9.out w6 (fun b o hb => hext b o (HJ4.out b o hb))
                    obtain ⟨f0, f1⟩ := HXC.out w6 hext
                    have hd2 := H6.out.drew
                    obtain ⟨wd3, hwd3⟩ : ∃ z, z = w6.drew := ⟨_, rfl⟩
                    rw [← hwd3] at hd2
                    have hext3 := hd2.p3.ext
                    obtain ⟨e90, e91, e92⟩ := HT9.out wd3 (fun b o hb => hext3 b o (HJ4.out b o hb))
                    have f5 := HHC.out wd3 (fun b o hb => hext3 b o (HJ4.out b o (HI2.out b o hb)))
                    have hS0 : wd3.cell? ⟨q, 1, none⟩ = some (.slice ah m ch) := hd2.cell 1
                    have hd4 := hd2.alloc0 (.cells #[.int .u64 (hv : Int)] 43)
                    have hS2 : (wd3.alloc (.cells #[.int .u64 (hv : Int)] 43)).cell? ⟨q, 1, none⟩ = some (.slice ah m ch) := hd4.cell 1
                    have H4 := Lib.hid hd4
                    have HWD3 := Lib.hid hwd3
                    clear hd2 hd4 hwd3 H6 hext hext3
                    subst eha
                    go_wp2_with fail
                    refine wp_region_canon rfl (fun w' => w'.cell? ⟨q, 1, none⟩ = some (.slice ah m ch)) [(0, .p), (1, .p), (2, .p), (3, .p), (4, .s), (5, .p), (6, .t), (7, .p), (8, .p), (9, .t), (10, .e true), (11, .e false), (12, .p), (13, .p), (14, .e false)] (by kernel_rfl) ?_
                    rw [← HWD3.out]
                    (repeat ((first | (refine C_p (v := ?_) rfl rfl (fun w' => ?_) ?_; rotate_left; (go_simp; with_reducible rfl)) | (refine C_s (v := ?_) rfl rfl hS0 (fun w' hS => ?_) ?_; rotate_left; ((try dsimp only at hS); go_simp; with_reducible rfl)) | (refine C_t (v := ?_) rfl rfl ?_ ?_; rotate_left; (go_simp; with_reducible rfl)) | (refine C_po rfl rfl ?_) | (refine C_so rfl rfl hS0 ?_) | (refine C_to rfl rfl ?_)); simp only [Act.put, List.setIfInBounds_toArray, List.set_cons_zero, List.set_cons_succ]))
                    (refine C_e rfl rfl (fun K hK => ?_); go_simp)
                    (refine hK _ _ (fun _ => hS2) ?_; clear hK K; (try simp only [Act.put, List.setIfInBounds_toArray, List.set_cons_zero, List.set_cons_succ]))
                    refine C_e rfl rfl (fun K hK => ?_)
                    refine wp_append_osl (.tmp 188) (.tmp 194) 38 rfl 43 1 8 (.int .u64 0) Tryd.underlying38 infoU64q rfl rfl H4.out.p2 rfl [.int .u64 (hv : Int)] rfl (by simp) (by intro b hb; cases hb; exact new_src _ [_] _) (by simp [Value.oneCell']) (by omega) (by unfold maxLen; omega) ?_
                    intro ah2 ch2 w8 h8
                    clear hS2 H4 hS0 d90 d91 d92 e90 e91 e92 f0 f1 f5
                    have hsw := h8.swf_of_osl
                    have h8' : Sat W w8 (sep (blk q (.cells #[.slice ab2 (m + 1) cb2, .slice ah m ch] 145 (0, 0))) (sep (osl 117 2 ab2 (m + 1) cb2 (blkC (List.map (·.1) (pairE ps ++ entE t.K (xs.take j)) ++ [x]))) (sep (osl 43 1 ah2 (m + 1) ch2 ((List.map (·.2) (pairE ps ++ entE t.K (xs.take j))).map uv ++ [.int .u64 (hv : Int)])) (sep (kn J4) A)))) := by simpa only [sep_comm, sep_lcomm, sep_assoc] using h8
                    have v1 := h8'.unfrozen 1
                    have s1 : w8.cell? ⟨q, 1, none⟩ = some (.slice ah m ch) := h8'.cell 1
                    have h9 := h8'.setCell 1 (.slice ah2 (m + 1) ch2)
                    obtain ⟨w9, hw9⟩ : ∃ z, z = w8.setCell ⟨q, 1, none⟩ (.slice ah2 (m + 1) ch2) := ⟨_, rfl⟩
                    rw [← hw9] at h9
                    have hEn : pairE ps ++ entE (kset t.K x (some hv)) (xs.take (j + 1)) = (pairE ps ++ entE t.K (xs.take j)) ++ [(x, hv)] := by
                      rw [HSTEP.out.2.2.2.2.2.1, entE_so hv HSTEP.out.2.2.2.1, List.append_assoc]
                    have H9 : Hid (Sat W w9 (sep (blk q (.cells #[.slice ab2 (m + 1) cb2, .slice ah2 (m + 1) ch2] 145 (0, 0))) (sep (osl 117 2 ab2 (m + 1) cb2 (blkC (List.map (·.1) (pairE ps ++ entE (kset t.K x (some hv)) (xs.take (j + 1)))))) (sep (osl 43 1 ah2 (m + 1) ch2 ((List.map (·.2) (pairE ps ++ entE (kset t.K x (some hv)) (xs.take (j + 1)))).map uv)) (sep (kn J4) A))))) := Lib.hid (by
                      have e1 : ∀ X : KEs, List.map (·.1) (X ++ [(x, hv)]) = List.map (·.1) X ++ [x] := fun X => by rw [List.map_append]; rfl
                      have e2 : ∀ X : KEs, (List.map (·.2) (X ++ [(x, hv)])).map uv = (List.map (·.2) X).map uv ++ [.int .u64 (hv : Int)] := fun X => by rw [List.map_append, List.map_append]; rfl
                      rw [hEn, e1, e2]
                      exact h9)
                    have HML : Hid (m + 1 = (pairE ps ++ entE (kset t.K x (some hv)) (xs.take (j + 1))).length) := Lib.hid (by rw [hEn, List.length_append, ← HT.out.2.2.2.2]; rfl)
                    have HW9 := Lib.hid hw9
                    have HSW2 := Lib.hid hsw
                    clear h8 h8' h9 hw9 hsw hEn
                    (refine hK _ _ (fun h => by cases h) ?_; clear hK K; (try simp only [Act.put, List.setIfInBounds_toArray, List.set_cons_zero, List.set_cons_succ]))
                    (repeat ((first | (refine C_p (v := ?_) rfl rfl (fun w' => ?_) ?_; rotate_left; (go_simp; with_reducible rfl)) | (refine C_s (v := ?_) rfl rfl hS0 (fun w' hS => ?_) ?_; rotate_left; ((try dsimp only at hS); go_simp; with_reducible rfl)) | (refine C_t (v := ?_) rfl rfl ?_ ?_; rotate_left; (go_simp; with_reducible rfl)) | (refine C_po rfl rfl ?_) | (refine C_so rfl rfl hS0 ?_) | (refine C_to rfl rfl ?_)); simp only [Act.put, List.setIfInBounds_toArray, List.set_cons_zero, List.set_cons_succ]))
                    (refine C_e rfl rfl (fun K hK => ?_); go_simp)
                    rw [← HW9.out]
                    (refine hK _ _ (fun h => by cases h) ?_; clear hK K; (try simp only [Act.put, List.setIfInBounds_toArray, List.set_cons_zero, List.set_cons_succ]))
                    (repeat ((first | (refine C_p (v := ?_) rfl rfl (fun w' => ?_) ?_; rotate_left; (go_simp; with_reducible rfl)) | (refine C_s (v := ?_) rfl rfl hS0 (fun w' hS => ?_) ?_; rotate_left; ((try dsimp only at hS); go_simp; with_reducible rfl)) | (refine C_t (v := ?_) rfl rfl ?_ ?_; rotate_left; (go_simp; with_reducible rfl)) | (refine C_po rfl rfl ?_) | (refine C_so rfl rfl hS0 ?_) | (refine C_to rfl rfl ?_)); simp only [Act.put, List.setIfInBounds_toArray, List.set_cons_zero, List.set_cons_succ]))
                    refine C_nil ?_
                    clear v1 s1 HW9
                    go_wp2_with fail
                    go_roundw
                    case rel => exact ⟨j + 1, lf, rt + 1, m + 1, ⟨t.i + 1, kset t.K x (some hv), t.l, p.r.drop (rt + 1)⟩, ab2, cb2, ah2, ch2, by omega, by omega, by omega, by omega, by go_num, by go_num, by go_num, HSW.out.1, HSW.out.2.1, HSW2.out.1, HSW2.out.2.1, Lib.hid ⟨HNX.out, by rw [← HT.out.2.1], HT.out.2.2.1, rfl, HML.out⟩, H9⟩
                    case measure => simp only [intOf]; omega
                  · have g5 : (rt : Int) ≥ (n2 : Int) := by omega
                    have htl : t.r = [] := by rw [HT.out.2.2.2.1]; exact List.drop_of_length_le (by rw [← HP.out.2.2.2.2.2.1]; omega)
                    have hr : cr = 2 := HSTEP.out.2.1 (by
                      rw [HSTEP.out.1, if_neg hs1, if_pos hs2]
                      rw [if_pos hsd]
                      rw [htl])
                    have HR := Lib.hid (And.intro hr (HFIN.out _ _ _ _ _ _ _ _ _ _ (Mem.le_trans HI2.out HJ4.out) H6.out))
                    have hext := H6.out.p3.ext
                    obtain ⟨d90, d91, d92⟩ := HT9.out w6 (fun b o hb => hext b o (HJ4.out b o hb))
                    obtain ⟨f0, f1⟩ := HXC.out w6 hext
                    clear hr HFIN H6 hext htl
                    go_wp2_with fail
                    go_ret
                    exact ⟨by rw [HR.out.1]; rfl, HR.out.2⟩
          · obtain rfl : j = nO := by omega
            have g1 : ¬ (j : Int) < (j : Int) := by omega
            have htk : xs.take j = xs := List.take_of_length_le (by rw [HXS.out.2.1]; exact Nat.le_refl _)
            have hkn := HT.out.1
            rw [htk] at hkn
            have hti : t.i = p.s.length := by rw [HT.out.2.1]; exact HP.out.2.2.2.2.2.2
            have hform : formP a b ps p = if t.l = [] ∧ t.r = [] then some (knE t.K ps) else none := by
              unfold formP
              rw [← HXS.out.1, hkn]
              dsimp only
              by_cases hlr : t.l = [] ∧ t.r = []
              · rw [if_pos ⟨hti, hlr⟩, if_pos hlr]
              · rw [if_neg (fun h => hlr h.2), if_neg hlr]
            by_cases e1 : lf = n1
            · have g4 : ((lf : Int) != (n1 : Int)) = false := by simp [e1]
              by_cases e2 : rt = n2
              · have g5 : ((rt : Int) != (n2 : Int)) = false := by simp [e2]
                have htl : t.l = [] := by rw [HT.out.2.2.1]; exact List.drop_of_length_le (by rw [← HP.out.2.2.2.2.1]; omega)
                have htr : t.r = [] := by rw [HT.out.2.2.2.1]; exact List.drop_of_length_le (by rw [← HP.out.2.2.2.2.2.1]; omega)
                rw [if_pos ⟨htl, htr⟩] at hform
                have hcr : cr = if (compP (knE t.K ps) 12 0).getD 0 = root then 0 else 10 := by
                  rw [HP.out.2.2.1]; unfold checkP; rw [if_neg (by simpa using HAB.out), if_neg (by rw [HWF.out]; simp), hform]
                have hlts : ∀ e ∈ entE t.K (outL a b 12 0), e.2 < 18446744073709551616 := fun e he =>
                  knF_lt _ hkn HP.out.2.2.2.1.bl HP.out.2.2.2.1.br (fun _ _ hh => by cases hh) _ _ (mem_entE.1 he).2
                rw [HXS.out.1] at hkn
                obtain ⟨hKOK, hOI⟩ := known_ok HWF.out HP.out.2.2.2.1.bl HP.out.2.2.2.1.br hkn hlts
                have hml := HT.out.2.2.2.2
                have hSS := HS.out
                rw [htk, HXS.out.1] at hml hSS
                obtain ⟨J5, hJ5, hknr, h6⟩ := known_settle hSS hml
                have hOF := qof_all hKOK 12 0 (by omega) (by decide) hOI hknr h6
                rw [show (0 : Int) * 2 ^ 12 = 0 by decide, show (2 : Int) ^ 12 = 4096 by decide] at hOF
                obtain ⟨o, ho⟩ : ∃ z, z = compP (knE t.K ps) 12 0 := ⟨_, rfl⟩
                rw [← ho] at hOF hcr
                obtain ⟨u, hu⟩ : ∃ z, z = o.getD 0 := ⟨_, rfl⟩
                obtain ⟨os, hos⟩ : ∃ z, z = o.isSome := ⟨_, rfl⟩
                rw [← hu, ← hos] at hOF
                rw [← hu] at hcr
                have HOF := Lib.hid hOF
                have HLE := Lib.hid (Mem.le_trans HI2.out (Mem.le_trans HJ4.out hJ5))
                have HCR := Lib.hid hcr
                clear HS hlt hj hkn hti hform htk htl htr hlts hKOK hOI hml hSS hJ5 hknr h6 hOF ho hu hos hcr HFIN HFORM e1 e2
                go_wp2_with fail
                refine HOF.out.mono ?_
                rintro e w6 ⟨rfl, h6⟩
                have H6 : Hid (Sat W w6 (sep (kn I) A)) := Lib.hid (h6.kn_mono HLE.out)
                clear HOF h6 c90 c91 c92
                by_cases hur : u = root
                · have g6 : ((u : Int) != (root : Int)) = false := by simp [hur]
                  have HRR : Hid (cr = 0) := Lib.hid (by rw [HCR.out, if_pos hur])
                  clear hur
                  go_wp2_with fail
                  go_ret
                  exact ⟨by rw [HRR.out]; rfl, H6.out⟩
                · have g6 : ((u : Int) != (root : Int)) = true := by simp; omega
                  have HRR : Hid (cr = 10) := Lib.hid (by rw [HCR.out, if_neg hur])
                  clear hur
                  go_wp2_with fail
                  go_ret
                  exact ⟨by rw [HRR.out]; rfl, H6.out⟩
              · have g5 : ((rt : Int) != (n2 : Int)) = true := by simp; omega
                have hne : ¬ (t.l = [] ∧ t.r = []) := fun h => by
                  have := congrArg List.length h.2
                  rw [HT.out.2.2.2.1, List.length_drop, ← HP.out.2.2.2.2.2.1] at this
                  simp at this
                  omega
                rw [if_neg hne] at hform
                have HR := Lib.hid (And.intro (HFORM.out hform) (HFIN.out _ _ _ _ _ _ _ _ _ _ (Mem.le_trans HI2.out HJ4.out) HS.out))
                clear HS hlt hj hkn hti hform htk HFIN HFORM hne e1 e2
                go_wp2_with fail
                go_ret
                exact ⟨by rw [HR.out.1]; rfl, HR.out.2⟩
            · have g4 : ((lf : Int) != (n1 : Int)) = true := by simp; omega
              have hne : ¬ (t.l = [] ∧ t.r = []) := fun h => by
                have := congrArg List.length h.1
                rw [HT.out.2.2.1, List.length_drop, ← HP.out.2.2.2.2.1] at this
                simp at this
                omega
              rw [if_neg hne] at hform
              have HR := Lib.hid (And.intro (HFORM.out hform) (HFIN.out _ _ _ _ _ _ _ _ _ _ (Mem.le_trans HI2.out HJ4.out) HS.out))
              clear HS hlt hj hkn hti hform htk HFIN HFORM hne e1
              go_wp2_with fail
              go_ret
              exact ⟨by rw [HR.out.1]; rfl, HR.out.2⟩
      · have gN : ((nO : Int) != (n3 : Int)) = true := by simp; omega
        have hf : formP a b ps p = none := by
          unfold formP
          rw [← HXS.out.1]
          cases hk : knF b p.s ⟨0, fun _ => none, p.l, p.r⟩ xs with
          | none => rfl
          | some t =>
            have h1 := (knF_dom _ hk).1
            dsimp only at h1 ⊢
            rw [if_neg]
            rintro ⟨h2, -⟩
            rw [h1, ← HXS.out.2.1, ← HP.out.2.2.2.2.2.2] at h2
            omega
        have HR := Lib.hid (And.intro (HFORM.out hf) (HFIN.out _ _ _ _ _ _ _ _ _ _ (Mem.le_trans HI2.out HJ4.out) H5.out))
        clear H5 hf HFIN HFORM hN
        go_wp2_with fail
        go_ret
        exact ⟨by rw [HR.out.1]; rfl, HR.out.2⟩
end Go.Proofs.YtcmjbjlliehdiaaDoor
