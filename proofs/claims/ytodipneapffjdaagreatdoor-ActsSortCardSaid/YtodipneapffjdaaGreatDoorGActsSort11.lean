/- The reference's Bytes of a formula: the walk. -/
import Derived.Test.YtodipneapffjdaaGreatDoorGActsSort10
namespace Go.Proofs.YtodipneapffjdaaGreatDoor
open Go.RowKit PA
theorem uvarint_pos (x : Nat) : 0 < (Lib.uvarint x).length := by
  rcases (show x < 128 ∨ 128 ≤ x by omega) with h | h
  · rw [Lib.uvarint_small h]; simp
  · rw [Lib.uvarint_big h]; simp
set_option maxHeartbeats 4000000 in
theorem r07bytes_spec {W : World} {I : Mem} (f : Fm) : ∀ (w : World) (A : Assn) (p q : Int) (x1 : Option Addr) (n1 c1 : Nat) (x2 : Option Addr) (n2 c2 : Nat), rF.rel I [.int .i64 p, .int .i64 q, .slice x1 n1 c1, .slice x2 n2 c2] f → f.n64 → (encFm f).length ≤ 268435456 → Sat W w (sep (kn I) A) →
    Calls Tryz.prog 58 #[.agg #[.int .i64 p, .int .i64 q, .slice x1 n1 c1, .slice x2 n2 c2]] w fun e w' => ∃ a c, e = .returned (.slice a (encFm f).length c) ∧ Sat W w' (sep (osl 5 1 a (encFm f).length c ((encFm f).map bv)) (sep (kn I) A)) := by
  refine Fm.ind (P := fun f => ∀ (w : World) (A : Assn) (p q : Int) (x1 : Option Addr) (n1 c1 : Nat) (x2 : Option Addr) (n2 c2 : Nat), rF.rel I [.int .i64 p, .int .i64 q, .slice x1 n1 c1, .slice x2 n2 c2] f → f.n64 → (encFm f).length ≤ 268435456 → Sat W w (sep (kn I) A) →
    Calls Tryz.prog 58 #[.agg #[.int .i64 p, .int .i64 q, .slice x1 n1 c1, .slice x2 n2 c2]] w fun e w' => ∃ a c, e = .returned (.slice a (encFm f).length c) ∧ Sat W w' (sep (osl 5 1 a (encFm f).length c ((encFm f).map bv)) (sep (kn I) A))) (fun o n i k ih => ?_) f
  intro w A p q x1 n1 c1 x2 n2 c2 hr h64 hlen h
  obtain ⟨x1', c1', x2', c2', e, hi, hk⟩ := rF_iff.1 hr
  simp only [List.cons.injEq, Value.int.injEq, Value.slice.injEq, true_and, and_true] at e
  obtain ⟨rfl, rfl, ⟨rfl, rfl, rfl⟩, ⟨rfl, rfl, rfl⟩⟩ := e
  rw [Fm.n64] at h64
  have h1 := h.alloc (.cells #[.int .i64 p, .int .i64 q, .slice x1 i.length c1, .slice x2 k.length c2] 35)
  obtain ⟨B, hB⟩ : ∃ B, B = w.heap.size := ⟨_, rfl⟩
  obtain ⟨w1, hw1⟩ : ∃ z, z = w.alloc (.cells #[.int .i64 p, .int .i64 q, .slice x1 i.length c1, .slice x2 k.length c2] 35) := ⟨_, rfl⟩
  rw [← hB, ← hw1] at h1
  have HB := Lib.hid (And.intro hB hw1)
  have h2 := h1.drew
  obtain ⟨wd, hwd⟩ : ∃ y, y = w1.drew := ⟨_, rfl⟩
  rw [← hwd] at h2
  have HW := Lib.hid hwd
  have hk63 := (slice_len hk).2.2
  have hi63 := (slice_len hi).2.2
  have hin : i.length ≤ 268435456 := by
    have key : ∀ l : List Iv, l.length ≤ (encIvs l).length := by
      intro l
      induction l with
      | nil => simp
      | cons g l ih =>
        unfold encIvs at ih ⊢
        rw [List.map_cons, List.flatten_cons, List.length_append, List.length_cons]
        have : 1 ≤ (encIs (ivInts g)).length := by
          unfold encIs; rw [List.length_append]
          have : 0 < (Lib.uvarint (ivInts g).length).length := List.length_pos_iff.2 (by rw [Lib.uvarint_small (by simp [ivInts])]; simp)
          omega
        omega
    have := key i
    rw [encFm] at hlen
    simp only [List.length_append] at hlen
    omega
  have hkn : k.length ≤ 268435456 := by
    have key : ∀ l : List Fm, l.length ≤ (encFms l).length := by
      intro l
      induction l with
      | nil => simp
      | cons g l ih =>
        rw [encFms, List.length_append, List.length_cons]
        have : 1 ≤ (encFm g).length := by
          obtain ⟨a, b, c, d⟩ := g
          rw [encFm]; simp only [List.length_append]
          have : 0 < (PA.encI a).length := by unfold PA.encI; exact uvarint_pos _
          omega
        omega
    have := key k
    rw [encFm] at hlen
    simp only [List.length_append] at hlen
    omega
  obtain ⟨E, hE⟩ : ∃ E, E = encFm (.mk p q i k) := ⟨_, rfl⟩
  rw [← hE] at hlen ⊢
  obtain ⟨V, hV⟩ : ∃ V : Nat → List UInt8, V = fun j => PA.encI p ++ PA.encI q ++ PA.encI i.length ++ encIvs (i.take j) := ⟨_, rfl⟩
  obtain ⟨D, hD⟩ : ∃ D : Nat → List UInt8, D = fun j => PA.encI p ++ PA.encI q ++ PA.encI i.length ++ encIvs i ++ PA.encI k.length ++ encFms (k.take j) := ⟨_, rfl⟩
  have hV0 : V 0 = PA.encI p ++ PA.encI q ++ PA.encI i.length := by rw [hV]; simp [encIvs]
  have hVs : ∀ j g, i[j]? = some g → V (j + 1) = V j ++ encIs (ivInts g) := fun j g hg => by rw [hV]; simp only; rw [encIvs_take hg]; simp only [List.append_assoc]
  have hVd : D 0 = V i.length ++ PA.encI k.length := by rw [hD, hV]; simp [encFms]
  have hDs : ∀ j g, k[j]? = some g → D (j + 1) = D j ++ encFm g := fun j g hg => by rw [hD]; simp only; rw [encFms_take hg]; simp only [List.append_assoc]
  have hDe : D k.length = E := by rw [hD, hE, encFm]; simp
  have hEl : E.length = (PA.encI p).length + (PA.encI q).length + (PA.encI i.length).length + (encIvs i).length + (PA.encI k.length).length + (encFms k).length := by rw [hE, encFm]; simp only [List.length_append]
  have hVl : ∀ j, (V j).length ≤ 268435456 := fun j => by rw [hV]; simp only [List.length_append]; have := encIvs_le i j; omega
  have hDl : ∀ j, (D j).length ≤ 268435456 := fun j => by rw [hD]; simp only [List.length_append]; have := encFms_le k j; omega
  obtain ⟨nk, hnk⟩ : ∃ z, z = k.length := ⟨_, rfl⟩
  obtain ⟨ni, hni⟩ : ∃ z, z = i.length := ⟨_, rfl⟩
  rw [← hni] at hV0 hVd hi hi63 hin h2
  rw [← hnk] at hVd hDe hk hk63 hkn h2
  simp only [← hni, ← hnk] at HB ⊢
  obtain ⟨X, hX⟩ : ∃ X, X = sep (blk B (.cells #[.int .i64 p, .int .i64 q, .slice x1 ni c1, .slice x2 nk c2] 35 (0, 0))) (sep (kn I) A) := ⟨_, rfl⟩
  have HX := Lib.hid hX
  have HC : Hid (∀ w' Y, Sat W w' (sep Y X) → w'.cell? ⟨B, 0, none⟩ = some (.int .i64 p) ∧ w'.cell? ⟨B, 1, none⟩ = some (.int .i64 q) ∧ w'.cell? ⟨B, 2, none⟩ = some (.slice x1 ni c1) ∧ w'.cell? ⟨B, 3, none⟩ = some (.slice x2 nk c2)) := Lib.hid fun w' Y h' => by rw [hX] at h'; exact fm4 h'.drop
  obtain ⟨c0, c1', -, -⟩ := fm4 h2
  rw [← hX] at h2
  have HXE : Hid (∀ w' Y, Sat W w' (sep Y X) → Ext I w') := Lib.hid fun w' Y h' => by rw [hX] at h'; exact h'.drop.p1.ext
  obtain ⟨Z, hZ⟩ : ∃ Z, Z = sep (blk B (.cells #[.int .i64 p, .int .i64 q, .slice x1 ni c1, .slice x2 nk c2] 35 (0, 0))) A := ⟨_, rfl⟩
  have HPM : Hid ((∀ w' Y, Sat W w' (sep Y X) → Sat W w' (sep (kn I) (sep Y Z))) ∧ (∀ w' O Y, Sat W w' (sep O (sep (kn I) (sep Y Z))) → Sat W w' (sep O (sep Y X))) ∧ (∀ w' Y, Sat W w' (sep Y X) → Sat W w' (sep Y (sep (kn I) A)))) := Lib.hid ⟨fun w' Y h' => by rw [hX] at h'; rw [hZ]; simpa only [sep_comm, sep_lcomm, sep_assoc] using h', fun w' O Y h' => by rw [hZ] at h'; rw [hX]; simpa only [sep_comm, sep_lcomm, sep_assoc] using h', fun w' Y h' => by rw [hX] at h'; exact Sat.drop (by simpa only [sep_comm, sep_lcomm, sep_assoc] using h' : Sat W w' (sep (blk B (.cells #[.int .i64 p, .int .i64 q, .slice x1 ni c1, .slice x2 nk c2] 35 (0, 0))) (sep Y (sep (kn I) A))))⟩
  have H2 := Lib.hid h2
  have HP := Lib.hid h64
  have HIH := Lib.hid ih
  have HI := Lib.hid hi
  have HK := Lib.hid hk
  have HN := Lib.hid (And.intro hnk hni)
  have HBD := Lib.hid (And.intro hkn hin)
  have HV := Lib.hid (And.intro hV0 (And.intro hVs (And.intro hVd (And.intro hDs hDe))))
  have HL := Lib.hid (And.intro hVl hDl)
  obtain ⟨Po, hPo⟩ : ∃ P : Ending → World → Prop, P = fun e w' => ∃ a c, e = .returned (.slice a E.length c) ∧ Sat W w' (sep (osl 5 1 a E.length c (E.map bv)) (sep (kn I) A)) := ⟨_, rfl⟩
  rw [← hPo]
  have HPO := Lib.hid hPo
  clear hr h64 hlen h hi hk h1 h2 hB hw1 hwd hin hkn hE hV hD hV0 hVs hVd hDs hDe hEl hVl hDl hnk hni hX ih hPo
  go_enter Tryz.func58, Tryz.ntmps58
  go_upto_region 1 with (fail)
  rw [← HB.out.1, ← HB.out.2]
  refine wp_region_canon rfl (fun w' => w'.cell? ⟨B, 1, none⟩ = some (.int .i64 q)) [(0, .p), (1, .t), (3, .p), (4, .s), (2, .e true), (5, .e false), (6, .e false), (7, .p)] (by kernel_rfl) ?_
  rw [← HW.out]
  have hS0 : wd.cell? ⟨B, 1, none⟩ = some (.int .i64 q) := c1'
  (repeat ((first | (refine C_p (v := ?_) rfl rfl (fun w' => ?_) ?_; rotate_left; (go_simp; with_reducible rfl)) | (refine C_s (v := ?_) rfl rfl hS0 (fun w' hS => ?_) ?_; rotate_left; ((try dsimp only at hS); go_simp; with_reducible rfl)) | (refine C_t (v := ?_) rfl rfl ?_ ?_; rotate_left; (go_simp; with_reducible rfl)) | (refine C_po rfl rfl ?_) | (refine C_so rfl rfl hS0 ?_) | (refine C_to rfl rfl ?_)); simp only [Act.put, List.setIfInBounds_toArray, List.set_cons_zero, List.set_cons_succ]))
  (refine C_e rfl rfl (fun K hK => ?_); go_simp)
  refine (rint_spec p HP.out.1.1 HP.out.1.2 H2.out).mono ?_
  rintro e w2 ⟨a1, d1, rfl, h3⟩
  have hS0 := (HC.out _ _ h3).2.1
  (refine hK _ _ (fun _ => hS0) ?_; clear hK K; (try simp only [Act.put, List.setIfInBounds_toArray, List.set_cons_zero, List.set_cons_succ]))
  obtain ⟨m1, hm1⟩ : ∃ m, m = (PA.encI p).length := ⟨_, rfl⟩
  obtain ⟨v1, hv1⟩ : ∃ v, v = (PA.encI p).map bv := ⟨_, rfl⟩
  have hb1 := encI_le HP.out.1.1 HP.out.1.2
  have hb2 := encI_le HP.out.2.1.1 HP.out.2.1.2
  rw [← hm1, ← hv1] at h3
  rw [← hm1] at hb1 ⊢
  have H3 := Lib.hid h3
  have HM1 := Lib.hid (And.intro hm1 hv1)
  clear h3 hm1 hv1 c0 c1' H2
  (refine C_e rfl rfl (fun K hK => ?_); go_simp)
  refine (rint_spec q HP.out.2.1.1 HP.out.2.1.2 H3.out).mono ?_
  rintro e w3 ⟨a2, d2, rfl, h4⟩
  have HOK := Lib.hid (osl_ow h4)
  have h5 := h4.drop
  obtain ⟨m2, hm2⟩ : ∃ m, m = (PA.encI q).length := ⟨_, rfl⟩
  obtain ⟨v2, hv2⟩ : ∃ v, v = (PA.encI q).map bv := ⟨_, rfl⟩
  rw [← hm2, ← hv2] at HOK
  rw [← hm2] at hb2 ⊢
  have HM2 := Lib.hid (And.intro hm2 hv2)
  clear h4 hm2 hv2 H3 hS0
  (refine hK _ _ (fun h => by cases h) ?_; clear hK K; (try simp only [Act.put, List.setIfInBounds_toArray, List.set_cons_zero, List.set_cons_succ]))
  refine C_e rfl rfl (fun K hK => ?_)
  refine wp_append_osl (.tmp 8) (.tmp 11) 50 rfl 5 1 1 (.int .u8 0) Tryz.underlying50 infoU8w rfl rfl h5 rfl v2 HOK.out.len HOK.out.nil HOK.out.src HOK.out.one (by omega) (by unfold maxLen; omega) ?_
  intro a3 d3 w4 h6
  clear HOK h5
  have H6 := Lib.hid h6
  have hmm : m1 + m2 ≤ 20 := by omega
  clear h6 hb1 hb2
  (refine hK _ _ (fun h => by cases h) ?_; clear hK K; (try simp only [Act.put, List.setIfInBounds_toArray, List.set_cons_zero, List.set_cons_succ]))
  (repeat ((first | (refine C_p (v := ?_) rfl rfl (fun w' => ?_) ?_; rotate_left; (go_simp; with_reducible rfl)) | (refine C_s (v := ?_) rfl rfl hS0 (fun w' hS => ?_) ?_; rotate_left; ((try dsimp only at hS); go_simp; with_reducible rfl)) | (refine C_t (v := ?_) rfl rfl ?_ ?_; rotate_left; (go_simp; with_reducible rfl)) | (refine C_po rfl rfl ?_) | (refine C_so rfl rfl hS0 ?_) | (refine C_to rfl rfl ?_)); simp only [Act.put, List.setIfInBounds_toArray, List.set_cons_zero, List.set_cons_succ]))
  refine C_nil ?_
  obtain ⟨-, -, c2, -⟩ := HC.out _ _ H6.out
  go_upto_region 2 with (fail)
  go_wp2_with fail
  refine (rint_spec (ni : Int) (by have := HBD.out; omega) (by have := HBD.out; omega) H6.out).mono ?_
  rintro e w5 ⟨a4, d4, rfl, h7⟩
  have HOK := Lib.hid (osl_ow h7)
  have h8 := h7.drop
  have hb4 := encI_le (r := (ni : Int)) (by have := HBD.out; omega) (by have := HBD.out; omega)
  obtain ⟨m4, hm4⟩ : ∃ m, m = (PA.encI ni).length := ⟨_, rfl⟩
  obtain ⟨v4, hv4⟩ : ∃ v, v = (PA.encI ni).map bv := ⟨_, rfl⟩
  rw [← hm4, ← hv4] at HOK
  rw [← hm4] at hb4 ⊢
  have HM4 := Lib.hid (And.intro hm4 hv4)
  clear h7 hm4 hv4 H6 c2
  go_wp2_with (at_builtin; (refine wpl_append_osl rfl (.tmp 13) (.tmp 17) 50 rfl 5 1 1 (.int .u8 0) Tryz.underlying50 infoU8w rfl rfl h8 rfl v4 HOK.out.len HOK.out.nil HOK.out.src HOK.out.one (by omega) (by unfold maxLen; omega) ?_))
  intro a5 d5 w6 h9
  have H9 := Lib.hid h9
  clear h8 h9 HOK
  have hEV : m1 + m2 + m4 = (V 0).length ∧ v1 ++ (v2 ++ v4) = (V 0).map bv := by
    rw [HV.out.1, HM1.out.1, HM1.out.2, HM2.out.1, HM2.out.2, HM4.out.1, HM4.out.2]
    exact ⟨by simp only [List.length_append], by simp only [List.map_append, List.append_assoc]⟩
  have HEV := Lib.hid hEV
  clear hEV hmm hb4
  go_wp2_with fail
  go_loopw [3, 4] (fun ov kv wr => ∃ (k : Nat) (a' : Option Addr) (n' c' : Nat) (vs : List Value), ov = .slice a' n' c' ∧ kv = .int .i64 k ∧ k ≤ ni ∧ Hid (n' = (V k).length ∧ vs = (V k).map bv) ∧ Sat W wr (sep (osl 5 1 a' n' c' vs) X)) (fun _ kv _ => ni - (intOf kv).toNat)
  case atStart => exact ⟨0, a5, _, d5, _, rfl, rfl, by omega, HEV, H9.out⟩
  case round =>
    obtain ⟨j, a', n', c', vs', rfl, rfl, hj, HVV, hS⟩ := hrel
    clear H9
    obtain ⟨-, -, c2, -⟩ := HC.out _ _ hS
    by_cases hlt : j < ni
    · have hltz : (j : Int) < (ni : Int) := by omega
      obtain ⟨g, hg⟩ : ∃ g, i[j]? = some g := ⟨_, List.getElem?_eq_getElem (by have := HN.out; omega)⟩
      obtain ⟨b, o, rfl, hcell⟩ := iv_elem HI.out hg
      obtain ⟨k0, k1, k2, k3, k4, k5, k6, k7⟩ := hcell wr (HXE.out _ _ hS)
      have hcall := rinterval_spec g (fun r hr => HP.out.2.2.1 g (List.mem_of_getElem? hg) r hr) hS
      have hb2 : (encIs (ivInts g)).length ≤ 90 := by
        have := encT_le (l := ivInts g) (by simp [ivInts]) (fun r hr => HP.out.2.2.1 g (List.mem_of_getElem? hg) r hr) (ivInts g).length
        rw [encT_all] at this; simp [ivInts] at this ⊢; omega
      obtain ⟨m2', hm2⟩ : ∃ m, m = (encIs (ivInts g)).length := ⟨_, rfl⟩
      obtain ⟨us, hus⟩ : ∃ us, us = (encIs (ivInts g)).map bv := ⟨_, rfl⟩
      rw [← hm2, ← hus] at hcall
      rw [← hm2] at hb2
      unfold ivC at hcall
      have HCA := Lib.hid hcall
      have hnb : n' ≤ 268435456 := by rw [HVV.out.1]; exact HL.out.1 j
      have HB2 := Lib.hid (And.intro hnb hb2)
      have HNX : Hid (V (j + 1) = V j ++ encIs (ivInts g) ∧ j < ni) := Lib.hid ⟨HV.out.2.1 j g hg, hlt⟩
      have HU := Lib.hid (And.intro hm2 hus)
      clear hg hcell hcall hb2 hnb hm2 hus hlt hj hS
      go_upto_region 6 with (fail)
      go_wp2_with fail
      refine HCA.out.mono ?_
      rintro e w3 ⟨a2', c2', rfl, h3⟩
      clear HCA k0 k1 k2 k3 k4 k5 k6 k7 c2
      have HOK : Hid (SrcOw w3 a2' m2' us) := Lib.hid (by rw [HU.out.2, HU.out.1] at h3 ⊢; exact osl_ow h3)
      have h4 := h3.drop
      clear h3
      go_wp2_with (at_builtin; (refine wpl_append_osl rfl (.tmp 26) (.tmp 32) 50 rfl 5 1 1 (.int .u8 0) Tryz.underlying50 infoU8w rfl rfl h4 rfl us HOK.out.len HOK.out.nil HOK.out.src HOK.out.one (by have := HB2.out; omega) (by have := HB2.out; unfold maxLen; omega) ?_))
      intro a4' c4' w5' h5
      have H5 := Lib.hid h5
      clear h4 h5 HOK
      go_wp2_with fail
      go_roundw
      case rel =>
        refine ⟨j + 1, a4', n' + m2', c4', _, rfl, by go_num, by have := HNX.out.2; omega, Lib.hid ⟨?_, ?_⟩, H5.out⟩
        · rw [HNX.out.1, List.length_append, HVV.out.1, HU.out.1]
        · rw [HNX.out.1, List.map_append, HVV.out.2, HU.out.2]
      case measure => simp [intOf]; have := HNX.out.2; omega
    · obtain rfl : j = ni := by omega
      have HS := Lib.hid hS
      obtain ⟨-, -, -, c3⟩ := HC.out _ _ hS
      have hnb : n' ≤ 268435456 := by rw [HVV.out.1]; exact HL.out.1 j
      clear hS hlt hj
      go_upto_region 7 with (fail)
      go_wp2_with fail
      refine (rint_spec (nk : Int) (by have := HBD.out; omega) (by have := HBD.out; omega) HS.out).mono ?_
      rintro e w3 ⟨a2', c2', rfl, h3⟩
      have HOK := Lib.hid (osl_ow h3)
      have h4 := h3.drop
      have hb5 := encI_le (r := (nk : Int)) (by have := HBD.out; omega) (by have := HBD.out; omega)
      obtain ⟨m5, hm5⟩ : ∃ m, m = (PA.encI nk).length := ⟨_, rfl⟩
      obtain ⟨v5, hv5⟩ : ∃ v, v = (PA.encI nk).map bv := ⟨_, rfl⟩
      rw [← hm5, ← hv5] at HOK
      rw [← hm5] at hb5 ⊢
      have HM5 := Lib.hid (And.intro hm5 hv5)
      clear h3 hm5 hv5 HS c2 c3
      go_wp2_with (at_builtin; (refine wpl_append_osl rfl (.tmp 34) (.tmp 38) 50 rfl 5 1 1 (.int .u8 0) Tryz.underlying50 infoU8w rfl rfl h4 rfl v5 HOK.out.len HOK.out.nil HOK.out.src HOK.out.one (by omega) (by unfold maxLen; omega) ?_))
      intro a6 d6 w7 h10
      have H10 := Lib.hid h10
      have HED : Hid (n' + m5 = (D 0).length ∧ vs' ++ v5 = (D 0).map bv) := Lib.hid (by
        rw [HV.out.2.2.1, HVV.out.1, HVV.out.2, HM5.out.1, HM5.out.2, List.length_append, List.map_append]
        exact ⟨rfl, rfl⟩)
      clear h4 h10 HOK hb5 hnb
      go_wp2_with fail
      go_loopw [3, 5] (fun ov kv wr => ∃ (k : Nat) (a' : Option Addr) (n' c' : Nat) (vs : List Value), ov = .slice a' n' c' ∧ kv = .int .i64 k ∧ k ≤ nk ∧ Hid (n' = (D k).length ∧ vs = (D k).map bv) ∧ Sat W wr (sep (osl 5 1 a' n' c' vs) X)) (fun _ kv _ => nk - (intOf kv).toNat)
      case atStart => exact ⟨0, a6, _, d6, _, rfl, rfl, by omega, HED, H10.out⟩
      case round =>
        obtain ⟨t, a'', n'', c'', vs'', rfl, rfl, hj, HDD, hS⟩ := hrel
        clear H10
        obtain ⟨-, -, -, c3⟩ := HC.out _ _ hS
        by_cases hlt : t < nk
        · have hltz : (t : Int) < (nk : Int) := by omega
          obtain ⟨g, hg⟩ : ∃ g, k[t]? = some g := ⟨_, List.getElem?_eq_getElem (by have := HN.out; omega)⟩
          obtain ⟨b, o, p', q', y1, e1, d1, y2, e2, d2, rfl, hgr, hcell⟩ := fm_elem HK.out hg
          have hmem : g ∈ k := List.mem_of_getElem? hg
          obtain ⟨j0, j1, j2, j3⟩ := hcell wr (HXE.out _ _ hS)
          have hlg : (encFm g).length ≤ 268435456 := by
            have h1 := HV.out.2.2.2.1 t g hg
            have h2 := HL.out.2 (t + 1)
            rw [h1, List.length_append] at h2; omega
          have hcall := HIH.out g hmem wr _ p' q' y1 e1 d1 y2 e2 d2 hgr (Fm.n64s_mem HP.out.2.2.2 hmem) hlg (HPM.out.1 _ _ hS)
          obtain ⟨m6, hm6⟩ : ∃ m, m = (encFm g).length := ⟨_, rfl⟩
          obtain ⟨us, hus⟩ : ∃ us, us = (encFm g).map bv := ⟨_, rfl⟩
          have HU := Lib.hid (And.intro hm6 hus)
          rw [← hm6, ← hus] at hcall
          rw [← hm6] at hlg
          have HCA := Lib.hid hcall
          have hnb : n'' ≤ 268435456 := by rw [HDD.out.1]; exact HL.out.2 t
          have HB2 := Lib.hid (And.intro hnb hlg)
          have HNX : Hid (D (t + 1) = D t ++ encFm g ∧ t < nk) := Lib.hid ⟨HV.out.2.2.2.1 t g hg, hlt⟩
          clear hgr hcell hmem hlg hcall hg hS hlt hj hnb hm6 hus
          go_upto_region 11 with (fail)
          go_wp2_with fail
          refine HCA.out.mono ?_
          rintro e w3' ⟨a7, d7, rfl, h11⟩
          clear HCA j0 j1 j2 j3 c3
          have HOK : Hid (SrcOw w3' a7 m6 us) := Lib.hid (by rw [HU.out.2, HU.out.1] at h11 ⊢; exact osl_ow h11)
          have h12 := (HPM.out.2.1 _ _ _ h11).drop
          clear h11
          go_wp2_with (at_builtin; (refine wpl_append_osl rfl (.tmp 47) (.tmp 53) 50 rfl 5 1 1 (.int .u8 0) Tryz.underlying50 infoU8w rfl rfl h12 rfl us HOK.out.len HOK.out.nil HOK.out.src HOK.out.one (by have := HB2.out; omega) (by have := HB2.out; unfold maxLen; omega) ?_))
          intro a8 d8 w8 h13
          have H13 := Lib.hid h13
          clear h12 h13 HOK
          go_wp2_with fail
          go_roundw
          case rel =>
            refine ⟨t + 1, a8, n'' + m6, d8, _, rfl, by go_num, by have := HNX.out.2; omega, Lib.hid ⟨?_, ?_⟩, H13.out⟩
            · rw [HNX.out.1, List.length_append, HDD.out.1, HU.out.1]
            · rw [HNX.out.1, List.map_append, HDD.out.2, HU.out.2]
          case measure => simp [intOf]; have := HNX.out.2; omega
        · obtain rfl : t = nk := by omega
          have HF : Hid (n'' = E.length ∧ vs'' = E.map bv) := Lib.hid (by
            have := HV.out.2.2.2.2
            rw [← this]; exact HDD.out)
          have HS := Lib.hid (HPM.out.2.2 _ _ hS)
          clear hS HDD hlt hj
          go_wp2
          rw [HPO.out]
          exact ⟨a'', c'', by rw [← HF.out.1]; try rfl, by rw [← HF.out.1, ← HF.out.2]; exact HS.out⟩
end Go.Proofs.YtodipneapffjdaaGreatDoor
/- The reference's Encode of a formula. -/
namespace PA
open Go Go.RowKit
/-- What Encode returns for a formula: no bytes if it is not valid. -/
def encF0 (f : Fm) : List UInt8 := if fmE f = 0 then encFm f else []
theorem ext_le {I J : Mem} {w : World} (hl : Mem.le I J) (h : Ext J w) : Ext I w := fun b o hb => h b o (hl b o hb)
theorem bytes_nilY (I : Mem) : rBytes.rel I [.slice none 0 0] [] :=
  bytes_rel.2 ⟨none, 0, rfl, ⟨Nat.le_refl _, Nat.zero_le _, fun _ => rfl⟩, .inl rfl⟩
end PA
namespace Go.Proofs.YtodipneapffjdaaGreatDoor
open Go.RowKit PA
theorem osl_learnY {W w : World} {A : Assn} {I : Mem} {a : Option Addr} {l c : Nat} {gb : List UInt8} (h : Sat W w (sep (osl 5 1 a l c (gb.map bv)) (sep (kn I) A))) (hl : l = gb.length) : ∃ J, Mem.le I J ∧ rBytes.rel J [.slice a l c] gb ∧ Sat W w (sep (kn J) A) := by
  subst hl
  exact h.bytes_of_osl.2.learn
set_option maxHeartbeats 2000000 in
theorem r07encode_spec {W w : World} {A : Assn} {I : Mem} (f : Fm) (p q : Int) (x1 : Option Addr) (n1 c1 : Nat) (x2 : Option Addr) (n2 c2 : Nat) (hr : rF.rel I [.int .i64 p, .int .i64 q, .slice x1 n1 c1, .slice x2 n2 c2] f) (hsz : f.size ≤ FmB) (h64 : f.n64) (hlen : (encFm f).length ≤ 268435456) (h : Sat W w (sep (kn I) A)) :
    Calls Tryz.prog 33 #[.agg #[.int .i64 p, .int .i64 q, .slice x1 n1 c1, .slice x2 n2 c2]] w fun e w' => ∃ (a : Option Addr) (n c : Nat) (J : Mem), e = .returned (.tuple #[.slice a n c, .int .i64 (fmE f)]) ∧ Mem.le I J ∧ rBytes.rel J [.slice a n c] (encF0 f) ∧ Sat W w' (sep (kn J) A) := by
  have h1 := h.alloc (.cells #[.int .i64 p, .int .i64 q, .slice x1 n1 c1, .slice x2 n2 c2] 35)
  obtain ⟨B, hB⟩ : ∃ B, B = w.heap.size := ⟨_, rfl⟩
  obtain ⟨w1, hw1⟩ : ∃ z, z = w.alloc (.cells #[.int .i64 p, .int .i64 q, .slice x1 n1 c1, .slice x2 n2 c2] 35) := ⟨_, rfl⟩
  rw [← hB, ← hw1] at h1
  obtain ⟨k0, k1, k2, k3⟩ := fm4 h1
  have HB := Lib.hid (And.intro hB hw1)
  have H1 := Lib.hid h1
  obtain ⟨rv, hrv⟩ : ∃ z, z = fmE f := ⟨_, rfl⟩
  obtain ⟨E, hE⟩ : ∃ z, z = encF0 f := ⟨_, rfl⟩
  have HVS : Hid (∀ w' A', Sat W w' (sep (kn I) A') → Calls Tryz.prog 57 #[.agg #[.int .i64 p, .int .i64 q, .slice x1 n1 c1, .slice x2 n2 c2]] w' fun e w'' => e = .returned (.int .i64 rv) ∧ Sat W w'' (sep (kn I) A')) := Lib.hid fun w' A' h' => by rw [hrv]; exact r07valid_spec f p q x1 n1 c1 x2 n2 c2 hr hsz h'
  have HBY : Hid (rv = 0 → ∀ w' A', Sat W w' (sep (kn I) A') → Calls Tryz.prog 58 #[.agg #[.int .i64 p, .int .i64 q, .slice x1 n1 c1, .slice x2 n2 c2]] w' fun e w'' => ∃ (a : Option Addr) (n c : Nat) (J : Mem), e = .returned (.slice a n c) ∧ Mem.le I J ∧ rBytes.rel J [.slice a n c] E ∧ Sat W w'' (sep (kn J) A')) := Lib.hid fun h0 w' A' h' => by
    refine (r07bytes_spec f w' A' p q x1 n1 c1 x2 n2 c2 hr h64 hlen h').mono ?_
    rintro e w'' ⟨a, c, rfl, h3⟩
    obtain ⟨J, hle, hr', h4⟩ := osl_learnY h3 rfl
    refine ⟨a, _, c, J, rfl, hle, ?_, h4⟩
    rw [hE]; unfold encF0; rw [if_pos (by rw [← hrv]; exact h0)]; exact hr'
  have HEN : Hid (rv ≠ 0 → E = []) := Lib.hid fun h0 => by rw [hE]; unfold encF0; rw [if_neg (by rw [← hrv]; exact h0)]
  rw [← hrv, ← hE]
  obtain ⟨Po, hPo⟩ : ∃ P : Ending → World → Prop, P = fun e w' => ∃ (a : Option Addr) (n c : Nat) (J : Mem), e = .returned (.tuple #[.slice a n c, .int .i64 rv]) ∧ Mem.le I J ∧ rBytes.rel J [.slice a n c] E ∧ Sat W w' (sep (kn J) A) := ⟨_, rfl⟩
  rw [← hPo]
  have HPO := Lib.hid hPo
  clear hr hsz h64 hlen h h1 hB hw1 hrv hE hPo
  by_cases hb0 : rv = 0
  · subst hb0
    have HBX := Lib.hid (HBY.out rfl)
    clear HBY HEN
    go_enter Tryz.func33, Tryz.ntmps33
    go_upto_region 1 with (fail)
    rw [← HB.out.1, ← HB.out.2]
    go_wp2_with fail
    refine (HVS.out _ _ H1.out.p1).mono ?_
    rintro e w2 ⟨rfl, h2⟩
    have H2 := Lib.hid h2.p1
    clear h2 HVS k0 k1 k2 k3
    obtain ⟨k0, k1, k2, k3⟩ := fm4 H2.out
    go_wp2_with fail
    refine (HBX.out _ _ H2.out.p1).mono ?_
    rintro e w3 ⟨a, n, c, J, rfl, hle, hr, h3⟩
    have HF := Lib.hid (And.intro hle (And.intro hr h3.p1.drop))
    clear h3 hle hr k0 k1 k2 k3 HBX
    go_wp2
    rw [HPO.out]
    exact ⟨a, n, c, J, rfl, HF.out.1, HF.out.2.1, HF.out.2.2⟩
  · have HE0 := Lib.hid (HEN.out hb0)
    have hb1 : (rv != 0) = true := by simpa using hb0
    have hb2 : (rv == 0) = false := by simpa using hb0
    clear HBY HEN hb0
    go_enter Tryz.func33, Tryz.ntmps33
    go_upto_region 1 with (fail)
    rw [← HB.out.1, ← HB.out.2]
    go_wp2_with fail
    refine (HVS.out _ _ H1.out.p1).mono ?_
    rintro e w2 ⟨rfl, h2⟩
    have HF := Lib.hid h2.p1.drop
    clear h2 HVS k0 k1 k2 k3
    go_wp2
    rw [HPO.out]
    exact ⟨none, 0, 0, I, rfl, Mem.le_refl I, by rw [HE0.out]; exact bytes_nilY I, HF.out⟩
end Go.Proofs.YtodipneapffjdaaGreatDoor
