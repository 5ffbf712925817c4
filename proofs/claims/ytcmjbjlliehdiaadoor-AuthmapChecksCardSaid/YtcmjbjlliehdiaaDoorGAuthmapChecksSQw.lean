/- SameProof, bare, proof; SamePairs. -/
import Derived.Test.YtcmjbjlliehdiaaDoorGAuthmapChecks20
namespace Go.Proofs.YtcmjbjlliehdiaaDoor
open Go.RowKit PA
attribute [local go_sem] Oper.semAt_some
theorem Prf.ext_iff' (p q : Prf) : p = q ↔ p.l = q.l ∧ p.r = q.r ∧ p.s = q.s := by
  cases p; cases q; simp
theorem and3 {P Q R S : Prop} [Decidable P] [Decidable Q] [Decidable R] [Decidable S] (h : S ↔ P ∧ Q ∧ R) : (decide P && decide Q && decide R) = decide S := by
  by_cases hp : P <;> by_cases hq : Q <;> by_cases hr : R <;> simp [h, hp, hq, hr]
set_option maxRecDepth 100000 in
set_option maxHeartbeats 8000000 in
theorem sameProof_spec {W w : World} {A : Assn} {I : Mem} (v u : Value) (p q : Prf) (h : Sat W w (sep (kn I) A)) (h1 : prfR I v p) (h2 : prfR I u q) :
    Calls Tryd.prog 22 #[v, u] w fun e w' => e = .returned (.bool (decide (p = q))) ∧ Sat W w' (sep (kn I) A) := by
  obtain ⟨v1, v2, v3, rfl, r1, r2, r3⟩ := h1
  obtain ⟨u1, u2, u3, rfl, s1, s2, s3⟩ := h2
  obtain ⟨a1, c1, rfl, -⟩ := hs_rel.1 r1
  obtain ⟨a2, c2, rfl, -⟩ := hs_rel.1 r2
  obtain ⟨a3, c3, rfl, -⟩ := bytes_rel.1 r3
  obtain ⟨b1, d1, rfl, -⟩ := hs_rel.1 s1
  obtain ⟨b2, d2, rfl, -⟩ := hs_rel.1 s2
  obtain ⟨b3, d3, rfl, -⟩ := bytes_rel.1 s3
  have hres := and3 (Prf.ext_iff' p q)
  rw [← hres]
  obtain ⟨p1, hp1⟩ : ∃ z, z = p.l.length := ⟨_, rfl⟩
  obtain ⟨p2, hp2⟩ : ∃ z, z = p.r.length := ⟨_, rfl⟩
  obtain ⟨p3, hp3⟩ : ∃ z, z = p.s.length := ⟨_, rfl⟩
  obtain ⟨q1, hq1⟩ : ∃ z, z = q.l.length := ⟨_, rfl⟩
  obtain ⟨q2, hq2⟩ : ∃ z, z = q.r.length := ⟨_, rfl⟩
  obtain ⟨q3, hq3⟩ : ∃ z, z = q.s.length := ⟨_, rfl⟩
  rw [← hp1] at r1 ⊢
  rw [← hp2] at r2 ⊢
  rw [← hp3] at r3 ⊢
  rw [← hq1] at s1 ⊢
  rw [← hq2] at s2 ⊢
  rw [← hq3] at s3 ⊢
  clear hp1 hp2 hp3 hq1 hq2 hq3 hres
  obtain ⟨e1, he1⟩ : ∃ z, z = decide (p.l = q.l) := ⟨_, rfl⟩
  obtain ⟨e2, he2⟩ : ∃ z, z = decide (p.r = q.r) := ⟨_, rfl⟩
  obtain ⟨e3, he3⟩ : ∃ z, z = decide (p.s = q.s) := ⟨_, rfl⟩
  rw [← he1, ← he2, ← he3]
  have HE := Lib.hid (And.intro he1 (And.intro he2 he3))
  clear he1 he2 he3
  have HR := Lib.hid (And.intro r1 (And.intro r2 r3))
  have HS := Lib.hid (And.intro s1 (And.intro s2 s3))
  clear r1 r2 r3 s1 s2 s3
  obtain ⟨x, hx⟩ : ∃ x, x = w.heap.size := ⟨_, rfl⟩
  obtain ⟨w3, hw3⟩ : ∃ w3, w3 = ((w.alloc (.cells #[.slice a1 p1 c1, .slice a2 p2 c2, .slice a3 p3 c3] 49)).alloc (.cells #[.slice b1 q1 d1, .slice b2 q2 d2, .slice b3 q3 d3] 49)) := ⟨_, rfl⟩
  have h3 : Sat W w3 (sep (kn I) (sep (blk x (.cells #[.slice a1 p1 c1, .slice a2 p2 c2, .slice a3 p3 c3] 49 (0, 0))) (sep (blk (x + 1) (.cells #[.slice b1 q1 d1, .slice b2 q2 d2, .slice b3 q3 d3] 49 (0, 0))) A))) := by
    have h1 := ((h.alloc (.cells #[.slice a1 p1 c1, .slice a2 p2 c2, .slice a3 p3 c3] 49)).alloc (.cells #[.slice b1 q1 d1, .slice b2 q2 d2, .slice b3 q3 d3] 49))
    simp only [World.size_alloc] at h1
    rw [← hw3, ← hx] at h1
    simpa only [sep_comm, sep_lcomm, sep_assoc] using h1
  have HW := Lib.hid (And.intro hx hw3)
  clear h hx hw3
  have HL := Lib.hid (sameHashes_spec (.slice a1 p1 c1) (.slice b1 q1 d1) p.l q.l h3 HR.out.1 HS.out.1)
  rw [← HE.out.1] at HL
  have k0 : w3.cell? ⟨x, 0, none⟩ = some (.slice a1 p1 c1) := h3.p1.cell 0
  have k1 : w3.cell? ⟨x + 1, 0, none⟩ = some (.slice b1 q1 d1) := h3.p2.cell 0
  clear h3
  go_enter Tryd.func22, Tryd.ntmps22
  go_upto_region 1 with (fail)
  rw [← HW.out.1, ← HW.out.2]
  go_wp2_with fail
  refine HL.out.mono ?_
  rintro e w4 ⟨rfl, h4⟩
  have HL2 := Lib.hid (sameHashes_spec (.slice a2 p2 c2) (.slice b2 q2 d2) p.r q.r h4 HR.out.2.1 HS.out.2.1)
  rw [← HE.out.2.1] at HL2
  have k2 : w4.cell? ⟨x, 1, none⟩ = some (.slice a2 p2 c2) := h4.p1.cell 1
  have k3 : w4.cell? ⟨x + 1, 1, none⟩ = some (.slice b2 q2 d2) := h4.p2.cell 1
  clear HL h4 k0 k1
  go_wp2_with fail
  refine HL2.out.mono ?_
  rintro e w5 ⟨rfl, h5⟩
  have k2 : w5.cell? ⟨x, 2, none⟩ = some (.slice a3 p3 c3) := h5.p1.cell 2
  have k3 : w5.cell? ⟨x + 1, 2, none⟩ = some (.slice b3 q3 d3) := h5.p2.cell 2
  have hsb := sameBytes_spec (.slice a3 p3 c3) (.slice b3 q3 d3) p.s q.s ((h5.tell HS.out.2.2).p1.tell HR.out.2.2).p2.p1
  rw [← HE.out.2.2] at hsb
  have HSB := Lib.hid hsb
  clear HL2 h5 hsb
  go_wp2_with fail
  refine HSB.out.mono ?_
  rintro e w6 ⟨rfl, h6⟩
  have H6 := Lib.hid h6.drop.drop
  clear HSB h6 k2 k3
  have H7 : Sat W w6 (sep (kn I) A) := by
    have := H6.out
    exact (show Sat W w6 (sep (blk x (.cells #[.slice a1 p1 c1, .slice a2 p2 c2, .slice a3 p3 c3] 49 (0, 0))) (sep (blk (x + 1) (.cells #[.slice b1 q1 d1, .slice b2 q2 d2, .slice b3 q3 d3] 49 (0, 0))) (sep (kn I) A))) by simpa only [sep_comm, sep_lcomm, sep_assoc] using this).drop.drop
  clear H6 HE HR HS
  cases e1 <;> cases e2 <;> cases e3 <;>
    (go_wp2_with fail
     go_ret
     exact ⟨rfl, H7⟩)
set_option maxHeartbeats 4000000 in
theorem bare_spec {W w : World} {A : Assn} (a1 a2 a3 : Option Addr) (n1 n2 n3 c1 c2 c3 : Nat) (h : Sat W w A) :
    Calls Tryd.prog 23 #[.agg #[.slice a1 n1 c1, .slice a2 n2 c2, .slice a3 n3 c3]] w fun e w' => e = .returned (.agg #[.slice a1 n1 c1, .slice a2 n2 c2, .slice a3 n3 c3]) ∧ Sat W w' A := by
  obtain ⟨x, hx⟩ : ∃ x, x = w.heap.size := ⟨_, rfl⟩
  obtain ⟨w3, hw3⟩ : ∃ w3, w3 = ((w.alloc (.cells #[.slice a1 n1 c1, .slice a2 n2 c2, .slice a3 n3 c3] 40)).alloc (.cells #[.slice none 0 0, .slice none 0 0, .slice none 0 0] 49)) := ⟨_, rfl⟩
  have h3 : Sat W w3 (sep (blk (x + 1) (.cells #[.slice none 0 0, .slice none 0 0, .slice none 0 0] 49 (0, 0))) (sep (blk x (.cells #[.slice a1 n1 c1, .slice a2 n2 c2, .slice a3 n3 c3] 40 (0, 0))) A)) := by
    have h1 := ((h.alloc (.cells #[.slice a1 n1 c1, .slice a2 n2 c2, .slice a3 n3 c3] 40)).alloc (.cells #[.slice none 0 0, .slice none 0 0, .slice none 0 0] 49))
    simp only [World.size_alloc] at h1
    rw [← hw3, ← hx] at h1
    exact h1
  have HW := Lib.hid (And.intro hx hw3)
  have k0 : w3.cell? ⟨x, 0, none⟩ = some (.slice a1 n1 c1) := h3.p1.cell 0
  have k1 : w3.cell? ⟨x, 1, none⟩ = some (.slice a2 n2 c2) := h3.p1.cell 1
  have k2 : w3.cell? ⟨x, 2, none⟩ = some (.slice a3 n3 c3) := h3.p1.cell 2
  have s0 : w3.cell? ⟨x + 1, 0, none⟩ = some (.slice none 0 0) := h3.cell 0
  have s1 : w3.cell? ⟨x + 1, 1, none⟩ = some (.slice none 0 0) := h3.cell 1
  have s2 : w3.cell? ⟨x + 1, 2, none⟩ = some (.slice none 0 0) := h3.cell 2
  have v0 : w3.frozen? ⟨x + 1, 0, none⟩ = false := h3.unfrozen 0
  have v1 : w3.frozen? ⟨x + 1, 1, none⟩ = false := h3.unfrozen 1
  have v2 : w3.frozen? ⟨x + 1, 2, none⟩ = false := h3.unfrozen 2
  have h6 := ((h3.setCell 0 (.slice a1 n1 c1)).setCell 1 (.slice a2 n2 c2)).setCell 2 (.slice a3 n3 c3)
  have H6 := Lib.hid (And.intro h6.drop.drop (And.intro (h6.cell 0) (And.intro (h6.cell 1) (h6.cell 2))))
  clear h hx hw3 h3 h6
  go_enter Tryd.func23, Tryd.ntmps23
  go_upto_region 1 with (fail)
  rw [← HW.out.1, ← HW.out.2]
  go_wp2_with fail
  refine bodyPost_ret (by simp [results, Tryd.results23, go_sem, H6.out.2.1, H6.out.2.2.1, H6.out.2.2.2]; try rfl) rfl ?_
  exact ⟨rfl, H6.out.1⟩
set_option maxHeartbeats 4000000 in
theorem proof_spec {W w : World} {A : Assn} (a1 a2 a3 : Option Addr) (n1 n2 n3 c1 c2 c3 : Nat) (h : Sat W w A) :
    Calls Tryd.prog 31 #[.agg #[.slice a1 n1 c1, .slice a2 n2 c2, .slice a3 n3 c3]] w fun e w' => e = .returned (.agg #[.slice a1 n1 c1, .slice a2 n2 c2, .slice a3 n3 c3]) ∧ Sat W w' A := by
  obtain ⟨x, hx⟩ : ∃ x, x = w.heap.size := ⟨_, rfl⟩
  obtain ⟨w3, hw3⟩ : ∃ w3, w3 = ((w.alloc (.cells #[.slice a1 n1 c1, .slice a2 n2 c2, .slice a3 n3 c3] 49)).alloc (.cells #[.slice none 0 0, .slice none 0 0, .slice none 0 0] 40)) := ⟨_, rfl⟩
  have h3 : Sat W w3 (sep (blk (x + 1) (.cells #[.slice none 0 0, .slice none 0 0, .slice none 0 0] 40 (0, 0))) (sep (blk x (.cells #[.slice a1 n1 c1, .slice a2 n2 c2, .slice a3 n3 c3] 49 (0, 0))) A)) := by
    have h1 := ((h.alloc (.cells #[.slice a1 n1 c1, .slice a2 n2 c2, .slice a3 n3 c3] 49)).alloc (.cells #[.slice none 0 0, .slice none 0 0, .slice none 0 0] 40))
    simp only [World.size_alloc] at h1
    rw [← hw3, ← hx] at h1
    exact h1
  have HW := Lib.hid (And.intro hx hw3)
  have k0 : w3.cell? ⟨x, 0, none⟩ = some (.slice a1 n1 c1) := h3.p1.cell 0
  have k1 : w3.cell? ⟨x, 1, none⟩ = some (.slice a2 n2 c2) := h3.p1.cell 1
  have k2 : w3.cell? ⟨x, 2, none⟩ = some (.slice a3 n3 c3) := h3.p1.cell 2
  have s0 : w3.cell? ⟨x + 1, 0, none⟩ = some (.slice none 0 0) := h3.cell 0
  have s1 : w3.cell? ⟨x + 1, 1, none⟩ = some (.slice none 0 0) := h3.cell 1
  have s2 : w3.cell? ⟨x + 1, 2, none⟩ = some (.slice none 0 0) := h3.cell 2
  have v0 : w3.frozen? ⟨x + 1, 0, none⟩ = false := h3.unfrozen 0
  have v1 : w3.frozen? ⟨x + 1, 1, none⟩ = false := h3.unfrozen 1
  have v2 : w3.frozen? ⟨x + 1, 2, none⟩ = false := h3.unfrozen 2
  have h6 := ((h3.setCell 0 (.slice a1 n1 c1)).setCell 1 (.slice a2 n2 c2)).setCell 2 (.slice a3 n3 c3)
  have H6 := Lib.hid (And.intro h6.drop.drop (And.intro (h6.cell 0) (And.intro (h6.cell 1) (h6.cell 2))))
  clear h hx hw3 h3 h6
  go_enter Tryd.func31, Tryd.ntmps31
  go_upto_region 1 with (fail)
  rw [← HW.out.1, ← HW.out.2]
  go_wp2_with fail
  refine bodyPost_ret (by simp [results, Tryd.results31, go_sem, H6.out.2.1, H6.out.2.2.1, H6.out.2.2.2]; try rfl) rfl ?_
  exact ⟨rfl, H6.out.1⟩
/-- SamePairs. -/
theorem pairs_form {I : Mem} {v : Value} {l : List (Int × List UInt8)} (h : (rPairQ.slice 2).rel I [v] l) : ∃ a c, v = .slice a l.length c ∧ l.length ≤ maxLen := by
  obtain ⟨a, c, cells, h1, h2, -⟩ := h
  cases h1
  exact ⟨a, c, rfl, by have := h2.1; have := h2.2.1; omega⟩
set_option maxRecDepth 100000 in
set_option maxHeartbeats 8000000 in
theorem samePairs_spec {W w : World} {A : Assn} {I : Mem} (v u : Value) (x y : List (Int × List UInt8)) (h : Sat W w (sep (kn I) A)) (h1 : (rPairQ.slice 2).rel I [v] x) (h2 : (rPairQ.slice 2).rel I [u] y) :
    Calls Tryd.prog 20 #[v, u] w fun e w' => e = .returned (.bool (decide (x = y))) ∧ Sat W w' (sep (kn I) A) := by
  obtain ⟨a, c, rfl, hm1⟩ := pairs_form h1
  obtain ⟨b, d, rfl, hm2⟩ := pairs_form h2
  have hl1 : (x.length : Int) ≤ 9223372036854775807 := by unfold maxLen at hm1; omega
  have hl2 : (y.length : Int) ≤ 9223372036854775807 := by unfold maxLen at hm2; omega
  obtain ⟨nx, hnx⟩ : ∃ nx, nx = x.length := ⟨_, rfl⟩
  obtain ⟨ny, hny⟩ : ∃ ny, ny = y.length := ⟨_, rfl⟩
  rw [← hnx] at hl1 h1 ⊢
  rw [← hny] at hl2 h2 ⊢
  have HNX := Lib.hid (And.intro hnx h1)
  have HNY := Lib.hid (And.intro hny h2)
  have H := Lib.hid h
  clear h h1 h2 hm1 hm2
  by_cases hne : nx = ny
  · subst hne
    clear hnx hny
    go_enter Tryd.func20, Tryd.ntmps20
    go_wp2
    go_loopw [5] (fun i wr => ∃ k : Nat, k ≤ nx ∧ i = .int .i64 k ∧ Hid (x.take k = y.take k) ∧ Sat W wr (sep (kn I) A)) (fun i _ => nx - (intOf i).toNat)
    case atStart => exact ⟨0, Nat.zero_le _, rfl, Lib.hid (by rw [List.take_zero, List.take_zero]), H.out⟩
    case round =>
      obtain ⟨k, hk, rfl, HT, hS⟩ := hrel
      by_cases hlt : k < nx
      · have k1 : k < x.length := by have := HNX.out.1; omega
        have k2 : k < y.length := by have := HNY.out.1; omega
        obtain ⟨wd, hwd⟩ : ∃ wd, wd = wr.drew := ⟨_, rfl⟩
        have hd := hS.drew
        rw [← hwd] at hd
        obtain ⟨b1, o1, va, vc, rfl, g0, g1, J, hJ, hr, h3⟩ := pair_at hd HNX.out.2 k k1
        obtain ⟨b2, o2, ua, uc, rfl, g2, g3, K, hK, hs, h4⟩ := pair_at h3 ((rPairQ.slice 2).mono hJ HNY.out.2) k k2
        obtain ⟨xk, hxk⟩ : ∃ z, z = x[k] := ⟨_, rfl⟩
        obtain ⟨yk, hyk⟩ : ∃ z, z = y[k] := ⟨_, rfl⟩
        rw [← hxk] at g0 g1 hr
        rw [← hyk] at g2 g3 hs
        have hsb := sameBytes_spec (.slice va xk.2.length vc) (.slice ua yk.2.length uc) xk.2 yk.2 ((h4.tell hs).p1.tell (rBytes.mono hK hr)).p2.p1
        have htk : x.take (k + 1) = x.take k ++ [xk] := by rw [List.take_succ_eq_append_getElem k1, ← hxk]
        have htk2 : y.take (k + 1) = y.take k ++ [yk] := by rw [List.take_succ_eq_append_getElem k2, ← hyk]
        have hne2 : xk ≠ yk → x ≠ y := fun hh e => hh (by rw [hxk, hyk]; subst e; rfl)
        have HXY := Lib.hid (And.intro htk (And.intro htk2 hne2))
        obtain ⟨xi, hxi⟩ : ∃ z, z = xk.1 := ⟨_, rfl⟩
        obtain ⟨yi, hyi⟩ : ∃ z, z = yk.1 := ⟨_, rfl⟩
        obtain ⟨xl, hxl⟩ : ∃ z, z = xk.2.length := ⟨_, rfl⟩
        obtain ⟨yl, hyl⟩ : ∃ z, z = yk.2.length := ⟨_, rfl⟩
        rw [← hxi] at g0
        rw [← hyi] at g2
        rw [← hxl] at g1 hsb
        rw [← hyl] at g3 hsb
        obtain ⟨eb, heb⟩ : ∃ z, z = decide (xk.2 = yk.2) := ⟨_, rfl⟩
        rw [← heb] at hsb
        have HSB := Lib.hid hsb
        have hJK : Mem.le I K := Mem.le_trans hJ hK
        have HD := Lib.hid (And.intro hJK (And.intro (And.intro hxi hyi) (And.intro heb h4)))
        clear hxk hyk hS hd hJ hK hr hs h3 h4 htk htk2 hne2 hsb hxl hyl hJK
        by_cases hxy : xi = yi
        · have b1 : (xi != yi) = false := by simp [hxy]
          cases eb with
          | true =>
            have hE := HD.out.2.2.1
            have hEq : xk = yk := Prod.ext (by rw [← HD.out.2.1.1, ← HD.out.2.1.2, hxy]) (of_decide_eq_true hE.symm)
            have HEq := Lib.hid hEq
            clear hE hEq hxi hyi heb hxy
            go_wp2_with fail
            refine wp_region_canon rfl (fun _ => True) [(0, .p), (1, .p), (2, .p), (3, .p), (4, .t), (5, .p), (6, .p), (7, .p), (8, .p), (9, .t), (10, .p), (11, .p), (12, .p), (13, .p), (14, .p), (15, .p), (16, .t), (17, .p), (18, .p), (19, .p), (20, .p), (21, .t), (22, .e false), (23, .p), (24, .p)] (by kernel_rfl) ?_
            rw [← hwd]
            clear hwd
            have hS0 : True := trivial
            (repeat ((first | (refine C_p (v := ?_) rfl rfl (fun w' => ?_) ?_; rotate_left; (go_simp; with_reducible rfl)) | (refine C_s (v := ?_) rfl rfl hS0 (fun w' hS => ?_) ?_; rotate_left; ((try dsimp only at hS); go_simp; with_reducible rfl)) | (refine C_t (v := ?_) rfl rfl ?_ ?_; rotate_left; (go_simp; with_reducible rfl)) | (refine C_po rfl rfl ?_) | (refine C_so rfl rfl hS0 ?_) | (refine C_to rfl rfl ?_)); simp only [Act.put, List.setIfInBounds_toArray, List.set_cons_zero, List.set_cons_succ]))
            (refine C_e rfl rfl (fun K hK => ?_); go_simp)
            refine HSB.out.mono ?_
            rintro e w2 ⟨rfl, h5⟩
            have h6 := h5.drop.drop.kn_mono HD.out.1
            have H6 := Lib.hid h6
            clear HSB h5 h6 g0 g1 g2 g3
            (refine hK _ _ (fun h => by cases h) ?_; clear hK K; (try simp only [Act.put, List.setIfInBounds_toArray, List.set_cons_zero, List.set_cons_succ]))
            (repeat ((first | (refine C_p (v := ?_) rfl rfl (fun w' => ?_) ?_; rotate_left; (go_simp; with_reducible rfl)) | (refine C_s (v := ?_) rfl rfl hS0 (fun w' hS => ?_) ?_; rotate_left; ((try dsimp only at hS); go_simp; with_reducible rfl)) | (refine C_t (v := ?_) rfl rfl ?_ ?_; rotate_left; (go_simp; with_reducible rfl)) | (refine C_po rfl rfl ?_) | (refine C_so rfl rfl hS0 ?_) | (refine C_to rfl rfl ?_)); simp only [Act.put, List.setIfInBounds_toArray, List.set_cons_zero, List.set_cons_succ]))
            refine C_nil ?_
            go_wp2_with fail
            go_roundw
            case rel => exact ⟨k + 1, by omega, rfl, Lib.hid (by rw [HXY.out.1, HXY.out.2.1, HT.out, HEq.out]), H6.out⟩
            case measure => simp only [intOf]; omega
          | false =>
            have hE := HD.out.2.2.1
            have hne3 : x ≠ y := HXY.out.2.2 (fun e => by rw [e] at hE; simp at hE)
            have HNE := Lib.hid hne3
            clear hE hne3 hxi hyi heb hxy
            go_wp2_with fail
            refine wp_region_canon rfl (fun _ => True) [(0, .p), (1, .p), (2, .p), (3, .p), (4, .t), (5, .p), (6, .p), (7, .p), (8, .p), (9, .t), (10, .p), (11, .p), (12, .p), (13, .p), (14, .p), (15, .p), (16, .t), (17, .p), (18, .p), (19, .p), (20, .p), (21, .t), (22, .e false), (23, .p), (24, .p)] (by kernel_rfl) ?_
            rw [← hwd]
            clear hwd
            have hS0 : True := trivial
            (repeat ((first | (refine C_p (v := ?_) rfl rfl (fun w' => ?_) ?_; rotate_left; (go_simp; with_reducible rfl)) | (refine C_s (v := ?_) rfl rfl hS0 (fun w' hS => ?_) ?_; rotate_left; ((try dsimp only at hS); go_simp; with_reducible rfl)) | (refine C_t (v := ?_) rfl rfl ?_ ?_; rotate_left; (go_simp; with_reducible rfl)) | (refine C_po rfl rfl ?_) | (refine C_so rfl rfl hS0 ?_) | (refine C_to rfl rfl ?_)); simp only [Act.put, List.setIfInBounds_toArray, List.set_cons_zero, List.set_cons_succ]))
            (refine C_e rfl rfl (fun K hK => ?_); go_simp)
            refine HSB.out.mono ?_
            rintro e w2 ⟨rfl, h5⟩
            have h6 := h5.drop.drop.kn_mono HD.out.1
            have H6 := Lib.hid h6
            clear HSB h5 h6 g0 g1 g2 g3
            (refine hK _ _ (fun h => by cases h) ?_; clear hK K; (try simp only [Act.put, List.setIfInBounds_toArray, List.set_cons_zero, List.set_cons_succ]))
            (repeat ((first | (refine C_p (v := ?_) rfl rfl (fun w' => ?_) ?_; rotate_left; (go_simp; with_reducible rfl)) | (refine C_s (v := ?_) rfl rfl hS0 (fun w' hS => ?_) ?_; rotate_left; ((try dsimp only at hS); go_simp; with_reducible rfl)) | (refine C_t (v := ?_) rfl rfl ?_ ?_; rotate_left; (go_simp; with_reducible rfl)) | (refine C_po rfl rfl ?_) | (refine C_so rfl rfl hS0 ?_) | (refine C_to rfl rfl ?_)); simp only [Act.put, List.setIfInBounds_toArray, List.set_cons_zero, List.set_cons_succ]))
            refine C_nil ?_
            go_wp2_with fail
            go_ret
            exact ⟨ret_bq (Eq.symm (decide_eq_false HNE.out)), H6.out⟩
        · have b1 : (xi != yi) = true := by simp [hxy]
          have hne3 : x ≠ y := HXY.out.2.2 (fun e => hxy (by rw [HD.out.2.1.1, HD.out.2.1.2, e]))
          have HNE := Lib.hid hne3
          have HW := Lib.hid (HD.out.2.2.2.kn_mono HD.out.1)
          clear hne3 hxi hyi heb hxy
          go_wp2_with fail
          refine wp_region_canon rfl (fun _ => True) [(0, .p), (1, .p), (2, .p), (3, .p), (4, .t), (5, .p), (6, .p), (7, .p), (8, .p), (9, .t), (10, .p), (11, .p), (12, .p), (13, .p), (14, .p), (15, .p), (16, .t), (17, .p), (18, .p), (19, .p), (20, .p), (21, .t), (22, .e false), (23, .p), (24, .p)] (by kernel_rfl) ?_
          rw [← hwd]
          clear hwd
          have hS0 : True := trivial
          (repeat ((first | (refine C_p (v := ?_) rfl rfl (fun w' => ?_) ?_; rotate_left; (go_simp; with_reducible rfl)) | (refine C_s (v := ?_) rfl rfl hS0 (fun w' hS => ?_) ?_; rotate_left; ((try dsimp only at hS); go_simp; with_reducible rfl)) | (refine C_t (v := ?_) rfl rfl ?_ ?_; rotate_left; (go_simp; with_reducible rfl)) | (refine C_po rfl rfl ?_) | (refine C_so rfl rfl hS0 ?_) | (refine C_to rfl rfl ?_)); simp only [Act.put, List.setIfInBounds_toArray, List.set_cons_zero, List.set_cons_succ]))
          (refine C_eo rfl rfl (fun h => by first | (cases h; done) | exact hS0) ?_; simp only [Act.put, List.setIfInBounds_toArray, List.set_cons_zero, List.set_cons_succ])
          (repeat ((first | (refine C_p (v := ?_) rfl rfl (fun w' => ?_) ?_; rotate_left; (go_simp; with_reducible rfl)) | (refine C_s (v := ?_) rfl rfl hS0 (fun w' hS => ?_) ?_; rotate_left; ((try dsimp only at hS); go_simp; with_reducible rfl)) | (refine C_t (v := ?_) rfl rfl ?_ ?_; rotate_left; (go_simp; with_reducible rfl)) | (refine C_po rfl rfl ?_) | (refine C_so rfl rfl hS0 ?_) | (refine C_to rfl rfl ?_)); simp only [Act.put, List.setIfInBounds_toArray, List.set_cons_zero, List.set_cons_succ]))
          refine C_nil ?_
          go_wp2_with fail
          go_ret
          exact ⟨ret_bq (Eq.symm (decide_eq_false HNE.out)), HW.out⟩
      · obtain rfl : k = nx := by omega
        have HS := Lib.hid hS
        clear hS
        go_wp2_with fail
        go_ret
        refine ⟨ret_bq (Eq.symm (decide_eq_true ?_)), HS.out⟩
        have := HT.out
        rw [List.take_of_length_le (by rw [HNX.out.1]; exact Nat.le_refl _), List.take_of_length_le (by rw [HNY.out.1]; exact Nat.le_refl _)] at this
        exact this
  · have hneI : ((nx : Int) != (ny : Int)) = true := by simp; omega
    have HNE := Lib.hid hne
    clear hne hnx hny
    go_enter Tryd.func20, Tryd.ntmps20
    go_wp2_with fail
    go_ret
    refine ⟨ret_bq (Eq.symm (decide_eq_false fun e => HNE.out (by rw [HNX.out.1, HNY.out.1, e]))), H.out⟩
end Go.Proofs.YtcmjbjlliehdiaaDoor
