/- authmap.known: the walk. -/
import Derived.Test.YtcmjbjlliehdiaaDoorGAuthmapChecksSQkv
namespace Go.Proofs.YtcmjbjlliehdiaaDoor
open Go.RowKit PA
attribute [local go_sem] Oper.semAt_some
/-- The two cells of the sides. -/
def thS : List Value → Assn
  | [] => emp
  | u :: _ => PA.ex fun g : Nat => sep (fact (u = .pointer (some ⟨g, 0, none⟩))) (blk g (.cells #[.slice none 0 0] 38 (0, 0)))
set_option maxRecDepth 100000 in
set_option maxHeartbeats 32000000 in
theorem known_spec {W w : World} {A : Assn} {I : Mem} (hw : WholeOK W) (a b : Int) (hab : 0 ≤ a ∧ a ≤ b ∧ b ≤ 4095) (pa : Option Addr) (pn pc : Nat) (ps : List (Int × List UInt8)) (vp : Value) (p : Prf) (h : Sat W w (sep (kn I) A))
    (hv : (rPairQ.slice 2).rel I [.slice pa pn pc] ps) (hps : ps.length ≤ 1000000) (hpl : ∀ x ∈ ps, x.2.length ≤ 65536) (hvp : prfR I vp p) (hp : PrfOK p) :
    Calls Tryd.prog 75 #[.int .i64 a, .int .i64 b, .slice pa pn pc, vp] w fun e w' =>
      (formP a b ps p = none ∧ ∃ mo : Option Nat, e = .returned (.tuple #[.map mo, .bool false]) ∧ Sat W w' (sep (kn I) A)) ∨
      ∃ K m n, formP a b ps p = some K ∧ e = .returned (.tuple #[.map (some m), .bool true]) ∧ Sat W w' (sep (gmap bkv m (kV K) n) (sep (kn I) A)) := by
  obtain ⟨v1, v2, v3, rfl, r1, r2, r3⟩ := hvp
  obtain ⟨la0, lc0, rfl, -⟩ := hs_rel.1 r1
  obtain ⟨ra0, rc0, rfl, -⟩ := hs_rel.1 r2
  obtain ⟨sa, sc, rfl, -⟩ := bytes_rel.1 r3
  obtain ⟨L, R, S⟩ := p
  dsimp only at *
  obtain ⟨nl, hnl⟩ : ∃ z, z = L.length := ⟨_, rfl⟩
  obtain ⟨nr, hnr⟩ : ∃ z, z = R.length := ⟨_, rfl⟩
  obtain ⟨ns, hns⟩ : ∃ z, z = S.length := ⟨_, rfl⟩
  rw [← hnl] at r1
  rw [← hnr] at r2
  rw [← hns] at r3
  rw [← hnl, ← hnr, ← hns]
  have hns6 : ns ≤ 1000000 := by rw [hns]; exact hp.s
  obtain ⟨t0, ht0⟩ : ∃ t0 : KSt, t0 = ⟨0, fun _ => none, L, R⟩ := ⟨_, rfl⟩
  obtain ⟨x, hx⟩ : ∃ x, x = w.heap.size := ⟨_, rfl⟩
  obtain ⟨w6, hw6⟩ : ∃ z, z = (((((w.alloc (.cells #[.int .i64 b] 3)).alloc (.cells #[.slice la0 nl lc0, .slice ra0 nr rc0, .slice sa ns sc] 40)).alloc (.cells #[.map none] 135)).alloc (.cells #[.bool false] 4)).alloc (.map #[] 0)).alloc (.cells #[.map (some (x + 1 + 1 + 1 + 1))] 135) := ⟨_, rfl⟩
  have h6 : Sat W w6 (sep (blk x (.cells #[.int .i64 b] 3 (0, 0))) (sep (blk (x + 1) (.cells #[.slice la0 nl lc0, .slice ra0 nr rc0, .slice sa ns sc] 40 (0, 0))) (sep (blk (x + 1 + 1 + 1 + 1 + 1) (.cells #[.map (some (x + 1 + 1 + 1 + 1))] 135 (0, 0))) (sep (kn I)
      (sep (gmap bkv (x + 1 + 1 + 1 + 1) (fun _ => none) 0) (sep (blk (x + 1 + 1) (.cells #[.map none] 135 (0, 0))) (sep (blk (x + 1 + 1 + 1) (.cells #[.bool false] 4 (0, 0))) A))))))) := by
    have h1 := ((((h.alloc (.cells #[.int .i64 b] 3)).alloc (.cells #[.slice la0 nl lc0, .slice ra0 nr rc0, .slice sa ns sc] 40)).alloc (.cells #[.map none] 135)).alloc (.cells #[.bool false] 4)).gmap_new bkv
    have h2 := h1.alloc (.cells #[.map (some (x + 1 + 1 + 1 + 1))] 135)
    simp only [World.size_alloc] at h2
    rw [← hx] at h2
    rw [← hw6] at h2
    simpa only [sep_comm, sep_lcomm, sep_assoc] using h2
  obtain ⟨t5, ht5⟩ : ∃ z, z = x := ⟨_, rfl⟩
  obtain ⟨t7, ht7⟩ : ∃ z, z = x + 1 := ⟨_, rfl⟩
  obtain ⟨t8, ht8⟩ : ∃ z, z = x + 1 + 1 := ⟨_, rfl⟩
  obtain ⟨t9, ht9⟩ : ∃ z, z = x + 1 + 1 + 1 := ⟨_, rfl⟩
  obtain ⟨m, hm⟩ : ∃ z, z = x + 1 + 1 + 1 + 1 := ⟨_, rfl⟩
  obtain ⟨t10, ht10⟩ : ∃ z, z = x + 1 + 1 + 1 + 1 + 1 := ⟨_, rfl⟩
  rw [← hm] at hw6
  rw [← ht10, ← hm, ← ht9, ← ht8, ← ht7, ← ht5] at h6
  have h7 : Sat W w6 (sep (imm t5 (.cells #[.int .i64 b] 3 (0, 0))) (sep (kn I) (sep (blk t7 (.cells #[.slice la0 nl lc0, .slice ra0 nr rc0, .slice sa ns sc] 40 (0, 0))) (sep (blk t10 (.cells #[.map (some m)] 135 (0, 0))) (sep (gmap bkv m (fun _ => none) 0) (sep (blk t8 (.cells #[.map none] 135 (0, 0))) (sep (blk t9 (.cells #[.bool false] 4 (0, 0))) A))))))) := by
    have := h6.settle
    simpa only [sep_comm, sep_lcomm, sep_assoc] using this
  obtain ⟨J1, hJ1, hb5, h8⟩ := h7.learn
  have h9 : Sat W w6 (sep (imm t7 (.cells #[.slice la0 nl lc0, .slice ra0 nr rc0, .slice sa ns sc] 40 (0, 0))) (sep (kn J1) (sep (blk t10 (.cells #[.map (some m)] 135 (0, 0))) (sep (gmap bkv m (fun _ => none) 0) (sep (blk t8 (.cells #[.map none] 135 (0, 0))) (sep (blk t9 (.cells #[.bool false] 4 (0, 0))) A)))))) := h8.p1.settle
  obtain ⟨J2, hJ2, hb7, h10⟩ := h9.learn
  have h11 : Sat W w6 (sep (imm t10 (.cells #[.map (some m)] 135 (0, 0))) (sep (kn J2) (sep (gmap bkv m (fun _ => none) 0) (sep (blk t8 (.cells #[.map none] 135 (0, 0))) (sep (blk t9 (.cells #[.bool false] 4 (0, 0))) A))))) := h10.p1.settle
  obtain ⟨J, hJ3, hb10, h12⟩ := h11.learn
  have HCJ : Hid (∀ w', Ext J w' → w'.cell? ⟨t5, 0, none⟩ = some (.int .i64 b) ∧ w'.cell? ⟨t7, 0, none⟩ = some (.slice la0 nl lc0) ∧ w'.cell? ⟨t7, 1, none⟩ = some (.slice ra0 nr rc0) ∧ w'.cell? ⟨t7, 2, none⟩ = some (.slice sa ns sc) ∧ w'.cell? ⟨t10, 0, none⟩ = some (.map (some m))) := Lib.hid fun w' he =>
    ⟨cell_of_row w' t5 0 _ _ _ (he _ _ (hJ3 _ _ (hJ2 _ _ hb5))), cell_of_row w' t7 0 _ _ _ (he _ _ (hJ3 _ _ hb7)), cell_of_row w' t7 1 _ _ _ (he _ _ (hJ3 _ _ hb7)), cell_of_row w' t7 2 _ _ _ (he _ _ (hJ3 _ _ hb7)), cell_of_row w' t10 0 _ _ _ (he _ _ hb10)⟩
  have hIJ := Mem.le_trans hJ1 (Mem.le_trans hJ2 hJ3)
  have HR := Lib.hid (And.intro hIJ (And.intro (rHs.mono hIJ r1) (And.intro (rHs.mono hIJ r2) (And.intro (rBytes.mono hIJ r3) (And.intro ((rPairQ.slice 2).mono hIJ hv) (And.intro hps hpl))))))
  have HN := Lib.hid (And.intro hnl (And.intro hnr (And.intro hns (And.intro ht0 hab))))
  have HX := Lib.hid (And.intro hx (And.intro hw6 (And.intro ht5 (And.intro ht7 (And.intro ht8 (And.intro ht9 (And.intro hm ht10)))))))
  have HW := Lib.hid (And.intro hw hp)
  clear h h6 h7 h8 h9 h10 h11 hJ1 hJ2 hJ3 hb5 hb7 hb10 hIJ r1 r2 r3 hv hps hpl hnl hnr hns hab hx hw6 ht5 ht7 ht8 ht9 hm ht10 hw hp ht0
  have hmm := @run_makeMap Tryd.prog
  refine (callsIn_wide (n := 5)).1 ?_
  refine callsIn_of_wp_marks Tryd.func75 rfl trivial ?_ rfl
  simp only [Tryd.ntmps75, List.size_toArray, List.length_cons, List.length_nil, Nat.reduceAdd, Nat.reduceSub, Array.replicate_succ, Array.replicate_zero, List.push_toArray, List.append_toArray, List.nil_append, List.cons_append]
  refine wpIn_wide.2 ?_
  go_upto_region 2 with (fail)
  rw [← HX.out.1, ← HX.out.2.2.2.2.2.2.2, ← HX.out.2.2.2.2.2.2.1, ← HX.out.2.2.2.2.2.1, ← HX.out.2.2.2.2.1, ← HX.out.2.2.2.1, ← HX.out.2.1, ← HX.out.2.2.1]
  clear hmm HX
  obtain ⟨FR, hFR⟩ : ∃ FR, FR = sep (kn J) (sep (gmap bkv m (fun _ => none) 0) (sep (blk t8 (.cells #[.map none] 135 (0, 0))) (sep (blk t9 (.cells #[.bool false] 4 (0, 0))) A))) := ⟨_, rfl⟩
  rw [← hFR] at h12
  have hd := h12.drew
  obtain ⟨wd, hwd⟩ : ∃ z, z = w6.drew := ⟨_, rfl⟩
  rw [← hwd] at hd
  have hSx : ∀ w' X, Sat W w' (sep X FR) → w'.cell? ⟨t7, 0, none⟩ = some (.slice la0 nl lc0) ∧ w'.cell? ⟨t7, 1, none⟩ = some (.slice ra0 nr rc0) := fun w' X hX => by
    rw [hFR] at hX
    have := HCJ.out w' hX.p1.ext
    exact ⟨this.2.1, this.2.2.1⟩
  have hS0 := hSx wd emp (by rw [emp_sep]; exact hd)
  have HSX := Lib.hid hSx
  have HFR := Lib.hid hFR
  clear h12 hSx hFR
  refine wp_region_items rfl (fun w' => w'.cell? ⟨t7, 0, none⟩ = some (.slice la0 nl lc0) ∧ w'.cell? ⟨t7, 1, none⟩ = some (.slice ra0 nr rc0)) [.one 0 .p, .one 1 .s, .one 2 .p, .one 3 .s, .grp true [4, 5], .one 6 (.e true), .one 7 (.e false)] (by kernel_rfl) ?_
  rw [← hwd]
  clear hwd
  (repeat ((first | (refine I_p (v := ?_) rfl rfl (fun w' => ?_) ?_; rotate_left; (go_simp; with_reducible rfl)) | (refine I_s (v := ?_) rfl rfl hS0 (fun w' hS => ?_) ?_; rotate_left; ((try dsimp only at hS); go_simp; with_reducible rfl)) | (refine I_t (v := ?_) rfl rfl ?_ ?_; rotate_left; (go_simp; with_reducible rfl)) | (refine I_po rfl rfl ?_) | (refine I_so rfl rfl hS0 ?_) | (refine I_to rfl rfl ?_)); simp only [Act.put, List.setIfInBounds_toArray, List.set_cons_zero, List.set_cons_succ]))
  clear hS0
  refine wpI_threads (W := W) (A := FR) [⟨[4], thS⟩, ⟨[5], thS⟩] (fun _ w' X hX => HSX.out w' X hX) (by kernel_rfl) ?_ ?_ ?_
  · intro t ht
    simp only [List.mem_cons, List.not_mem_nil, or_false] at ht
    rcases ht with rfl | rfl
    all_goals
      refine ⟨⟨_, rfl, (by intro cs b h; cases h), rfl, fun w' A' h' => .inl ⟨.pointer (some ⟨w'.heap.size, 0, none⟩), w'.alloc (.cells #[.slice none 0 0] 38), ?_, ?_⟩⟩, (fun k hk => (by cases hk)), fun v6 => trivial⟩
      · (go_simp; try rfl)
      · have h2 := (show Sat W w' A' from by have := (show Sat W w' (sep emp A') from h'); rwa [emp_sep] at this).alloc (.cells #[.slice none 0 0] 38)
        exact fact_ex w'.heap.size rfl h2
  · show Sat W wd (sep emp (sep emp FR))
    rw [emp_sep, emp_sep]
    exact hd
  · intro dn1 h1 dn2 h2 w7 h13
    obtain ⟨v4, rfl⟩ := dn_one h1
    obtain ⟨v5, rfl⟩ := dn_one h2
    obtain ⟨t12, rfl, h14⟩ := ex_fact (show Sat W w7 (sep (PA.ex fun g : Nat => sep (fact (v5 = .pointer (some ⟨g, 0, none⟩))) (blk g (.cells #[.slice none 0 0] 38 (0, 0)))) (sep (thS [v4]) FR)) from h13)
    obtain ⟨t11, rfl, h15⟩ := ex_fact (show Sat W w7 (sep (PA.ex fun g : Nat => sep (fact (v4 = .pointer (some ⟨g, 0, none⟩))) (blk g (.cells #[.slice none 0 0] 38 (0, 0)))) (sep (blk t12 (.cells #[.slice none 0 0] 38 (0, 0))) FR)) from h14.p1)
    change wpI _ _ _ _ _ _ ((Act.put _ (some 11) (.pointer (some ⟨t11, 0, none⟩))).put (some 12) (.pointer (some ⟨t12, 0, none⟩))) _
    simp only [Act.put, List.setIfInBounds_toArray, List.set_cons_zero, List.set_cons_succ]
    have c0 : w7.cell? ⟨t11, 0, none⟩ = some (.slice none 0 0) := h15.cell 0
    have f0 : w7.frozen? ⟨t11, 0, none⟩ = false := h15.unfrozen 0
    have h16 := h15.setCell 0 (.slice la0 nl lc0)
    obtain ⟨w8, hw8⟩ : ∃ z, z = w7.setCell ⟨t11, 0, none⟩ (.slice la0 nl lc0) := ⟨_, rfl⟩
    rw [← hw8] at h16
    have c1 : w8.cell? ⟨t12, 0, none⟩ = some (.slice none 0 0) := h16.p1.cell 0
    have f1 : w8.frozen? ⟨t12, 0, none⟩ = false := h16.p1.unfrozen 0
    have h17 := h16.p1.setCell 0 (.slice ra0 nr rc0)
    obtain ⟨w9, hw9⟩ : ∃ z, z = w8.setCell ⟨t12, 0, none⟩ (.slice ra0 nr rc0) := ⟨_, rfl⟩
    rw [← hw9] at h17
    have HW9 := Lib.hid (And.intro hw8 hw9)
    have HS8 := Lib.hid (HSX.out w8 _ (show Sat W w8 (sep (sep (blk t11 (.cells #[.slice la0 nl lc0] 38 (0, 0))) (blk t12 (.cells #[.slice none 0 0] 38 (0, 0)))) FR) by rw [sep_assoc]; exact h16))
    clear h13 h14 h15 h16 hw8 hw9 h1 h2 hd HSX
    (refine I_e rfl rfl (fun K hK => ?_); go_simp)
    rw [← HW9.out.1]
    (refine hK _ _ (fun _ => HS8.out) ?_; clear hK K; (try simp only [Act.put, List.setIfInBounds_toArray, List.set_cons_zero, List.set_cons_succ]))
    (refine I_e rfl rfl (fun K hK => ?_); go_simp)
    rw [← HW9.out.2]
    clear c0 f0 c1 f1
    (refine hK _ _ (fun h => by cases h) ?_; clear hK K; (try simp only [Act.put, List.setIfInBounds_toArray, List.set_cons_zero, List.set_cons_succ]))
    refine I_nil ?_
    -- the counter
    have h18 := h17.alloc (.cells #[.int .i64 ((0 : Nat) : Int)] 3)
    obtain ⟨t13, ht13⟩ : ∃ z, z = w9.heap.size := ⟨_, rfl⟩
    obtain ⟨w10, hw10⟩ : ∃ z, z = w9.alloc (.cells #[.int .i64 ((0 : Nat) : Int)] 3) := ⟨_, rfl⟩
    rw [← ht13, ← hw10, HFR.out] at h18
    have h19 : Sat W w10 (sep (KC J b S t0 t8 t9 t11 t12 t13 m []) A) := by
      refine KC_mk (t := t0) (la := la0) (lc := lc0) (ra := ra0) (rc := rc0) (n := 0) (nl := nl) (nr := nr) (i := 0) (knF_nil _ _ _) (by rw [HN.out.2.2.2.1]; rfl) (by rw [HN.out.2.2.2.1]; exact HR.out.2.1) (by rw [HN.out.2.2.2.1]; exact HR.out.2.2.1) (by rw [HN.out.2.2.2.1]; exact HN.out.1) (by rw [HN.out.2.2.2.1]; exact HN.out.2.1) (by rw [HN.out.2.2.2.1]) ?_
      rw [show kV t0.K = fun _ => none by rw [HN.out.2.2.2.1]; rfl]
      simpa only [sep_comm, sep_lcomm, sep_assoc, List.setIfInBounds_toArray, List.set_cons_zero] using h18
    have HW10 := Lib.hid (And.intro ht13 hw10)
    have hcj := (HCJ.out w10 (by obtain ⟨_, _, _, _, _, _, _, _, _, _, h⟩ := KC_open h19; exact h.ext)).1
    have HOUT := Lib.hid (outside_spec a b h19)
    clear h17 h18 h19 ht13 hw10 HW9
    go_upto_region 4 with (fail)
    have hw10 := HW10.out.2
    rw [Int.natCast_zero] at hw10
    rw [← HW10.out.1, ← hw10]
    clear hw10 HW10
    go_wp2_with fail
    refine HOUT.out.mono ?_
    rintro e w11 ⟨ba, bb, rfl, h20⟩
    have h21 : Sat W w11 (sep (sep (KC J b S t0 t8 t9 t11 t12 t13 m []) A) (sep (blk ba (.cells #[.int .i64 a] 3 (0, 0))) (sep (blk bb (.cells #[.int .i64 b] 3 (0, 0))) emp))) := by
      rw [sep_emp]
      simpa only [sep_comm, sep_lcomm, sep_assoc] using h20
    have eg := enters_of (P := Tryd.prog) Tryd.func86 (by kernel_rfl) rfl
    clear HOUT h20 hcj
    go_wp2_with fail
    refine (wpIn_wide (n := 5)).1 ?_
    refine wpIn_rangeS3 (F := Fence.wide) (W := W) rfl (by omega) (gf := 86) (lb := #[.pointer (some ⟨ba, 0, none⟩), .pointer (some ⟨bb, 0, none⟩)]) rfl trivial eg (encs := encB) (fun _ => rfl) (outside1_givesS (A := emp) HW.out.1 (5 - 1) a b ba bb)
      (fun xs => sep (KC J b S t0 t8 t9 t11 t12 t13 m xs) A) (fun c xs => sep (KZ J b S t0 t8 t9 c xs) A) h21
      (fun y g t => (t.setIfInBounds 26 (bkv y)).setIfInBounds 14 (.pointer (some ⟨g, 0, none⟩)))
      (fun pre y g => sep (fact (inT y.1 y.2)) (sep (blk g (.cells #[.int .i64 (y.1 : Nat), .int .i64 y.2] 106 (0, 0))) (sep (KC J b S t0 t8 t9 t11 t12 t13 m pre) A))) ?assign ?body ?done ?stop
    case assign =>
      as_aux_lemma =>
        /-DEV2-/
        intro lp pre y w' B K hlen hS hK
        obtain ⟨l, n⟩ := y
        simp only [List.setIfInBounds_toArray, List.set_cons_zero, List.set_cons_succ] at hK
        have h1 : Sat W w' (sep (fact (inT l n)) (sep (sep (KC J b S t0 t8 t9 t11 t12 t13 m pre) A) B)) := by
          unfold noB at hS
          simpa only [sep_comm, sep_lcomm, sep_assoc] using hS
        obtain ⟨hT, h2⟩ := Sat.fact.1 h1
        have h3 := h2.alloc (.cells #[.int .i64 (l : Nat), .int .i64 n] 106)
        have h4 : Sat W (w'.alloc (.cells #[.int .i64 (l : Nat), .int .i64 n] 106)) (sep (sep (fact (inT l n)) (sep (blk w'.heap.size (.cells #[.int .i64 (l : Nat), .int .i64 n] 106 (0, 0))) (sep (KC J b S t0 t8 t9 t11 t12 t13 m pre) A))) B) := by
          rw [sep_assoc]
          exact Sat.fact.2 ⟨hT, by simpa only [sep_comm, sep_lcomm, sep_assoc] using h3⟩
        have h5 := hK _ _ h4
        have H5 := Lib.hid h5
        clear hK hS h1 h2 h3 h4 h5 h21
        dsimp only [encB, bkv] at *
        gi_wp2_with fail
        exact H5.out
        /-VED2-/
    case body =>
      as_aux_lemma =>
        /-DEV3-/
        intro lp pre y g w' B hlen hS
        obtain ⟨l, n⟩ := y
        simp only [List.setIfInBounds_toArray, List.set_cons_zero, List.set_cons_succ]
        simp only [sep_assoc] at hS
        obtain ⟨hT, hS⟩ := Sat.fact.1 hS
        obtain ⟨t, la, lc, ra, rc, n0, hkn, hti, hla, hra, h1⟩ := KC_open (show Sat W w' (sep (KC J b S t0 t8 t9 t11 t12 t13 m pre) (sep (blk g (.cells #[.int .i64 (l : Nat), .int .i64 n] 106 (0, 0))) (sep A B))) by simpa only [sep_comm, sep_lcomm, sep_assoc] using hS)
        obtain ⟨ti, hti'⟩ : ∃ z, z = t.i := ⟨_, rfl⟩
        obtain ⟨tl, htl⟩ : ∃ z, z = t.l.length := ⟨_, rfl⟩
        obtain ⟨tr, htr⟩ : ∃ z, z = t.r.length := ⟨_, rfl⟩
        have hti4 : ti < 4096 := by rw [hti', hti]; exact hlen
        rw [← hti', ← htl, ← htr] at h1
        rw [← htl] at hla
        rw [← htr] at hra
        have hsn : knF b S t0 (pre ++ [(l, n)]) = stepK b S (l, n) t := by rw [knF_snoc, hkn]; rfl
        have HT := Lib.hid (And.intro hsn (And.intro hti' (And.intro htl (And.intro htr (And.intro hla (And.intro hra (And.intro hT hti)))))))
        obtain ⟨d5, -, -, d7, d10⟩ := HCJ.out w' h1.ext
        have d13 : w'.cell? ⟨t13, 0, none⟩ = some (.int .i64 (ti : Nat)) := h1.p5.cell 0
        have H1 := Lib.hid h1
        clear hS hkn hti hti' htl htr hla hra h1 hsn hT hlen h21
        by_cases q1 : ti < ns
        · have hi : ti < S.length := by rw [← HN.out.2.2.1]; exact q1
          have hne : S ≠ [] := fun e => by rw [e] at hi; simp at hi
          obtain ⟨a', c', ev, -, hkc⟩ := bytes_rel.1 HR.out.2.2.2.1
          simp only [Value.slice.injEq] at ev
          obtain ⟨rfl, -, rfl⟩ := ev
          obtain ⟨sb, so, rfl, hbc⟩ := bytes_cells hkc hne
          have HBC : Hid (∀ w2, Ext J w2 → w2.cell? ⟨sb, so + ti, none⟩ = some (.int .u8 (S[ti].toNat : Nat))) := Lib.hid fun w2 he => hbc w2 he ti hi
          obtain ⟨cb, hcb⟩ : ∃ z, z = S[ti] := ⟨_, rfl⟩
          rw [← hcb] at HBC
          have hget : S[t.i]? = some cb := by rw [← HT.out.2.1, List.getElem?_eq_getElem hi, hcb]
          obtain ⟨cn, hcn⟩ : ∃ z, z = cb.toNat := ⟨_, rfl⟩
          rw [← hcn] at HBC
          have ds := HBC.out w' H1.out.ext
          have hcn256 : cn < 256 := by rw [hcn]; exact cb.toNat_lt
          have q1I : (ti : Int) < (ns : Int) := by omega
          have q1B : decide ((ns : Int) ≤ (ti : Int)) = false := decide_eq_false (by omega)
          clear hi hne hkc hbc hcb
          by_cases q2 : 1 < cn
          · have q2I : decide ((1 : Int) < (cn : Int)) = true := decide_eq_true (by omega)
            have HNO : Hid (knF b S t0 (pre ++ [(l, n)]) = none) := Lib.hid (by
              rw [HT.out.1]; unfold stepK; rw [hget]; simp only []
              rw [if_pos (show (1 : UInt8) < cb from UInt8.lt_iff_toNat_lt.2 (by rw [← hcn]; exact q2))])
            have HZ := Lib.hid (KZ_stop (pre := pre ++ [(l, n)]) HNO.out (show Sat W w' (sep (kn J) (sep (blk t8 (.cells #[.map none] 135 (0, 0))) (sep (blk t9 (.cells #[.bool false] 4 (0, 0))) (sep (sep (blk t11 (.cells #[.slice la tl lc] 38 (0, 0))) (sep (blk t12 (.cells #[.slice ra tr rc] 38 (0, 0))) (sep (blk t13 (.cells #[.int .i64 (ti : Nat)] 3 (0, 0))) (sep (gmap bkv m (kV t.K) n0) (blk g (.cells #[.int .i64 (l : Nat), .int .i64 n] 106 (0, 0))))))) (sep A B))))) by
              have := H1.out
              simpa only [sep_comm, sep_lcomm, sep_assoc] using this))
            have c8 : w'.cell? ⟨t8, 0, none⟩ = some (.map none) := (H1.out.p1).cell 0
            have f8 : w'.frozen? ⟨t8, 0, none⟩ = false := (H1.out.p1).unfrozen 0
            have c9 : (w'.setCell ⟨t8, 0, none⟩ (.map none)).cell? ⟨t9, 0, none⟩ = some (.bool false) := ((H1.out.p1).setCell 0 (.map none)).p2.cell 0
            have f9 : (w'.setCell ⟨t8, 0, none⟩ (.map none)).frozen? ⟨t9, 0, none⟩ = false := ((H1.out.p1).setCell 0 (.map none)).p2.unfrozen 0
            clear q2 hget hcn
            gi_wp2_with fail
            exact HZ.out
          · have q2I : decide ((1 : Int) < (cn : Int)) = false := decide_eq_false (by omega)
            have hd := H1.out.drew
            obtain ⟨wd, hwd⟩ : ∃ z, z = w'.drew := ⟨_, rfl⟩
            rw [← hwd] at hd
            have hfs := afirst_spec l n HT.out.2.2.2.2.2.2.1 hd
            obtain ⟨fi, hfi⟩ : ∃ z, z = bFirst (l, n) := ⟨_, rfl⟩
            rw [← hfi] at hfs
            have HFS := Lib.hid hfs
            have HWD := Lib.hid hwd
            have HGE := Lib.hid (And.intro hget (And.intro hcn hfi))
            have HS0 : Hid (wd.cell? ⟨g, 0, none⟩ = some (.int .i64 (l : Nat)) ∧ wd.cell? ⟨g, 1, none⟩ = some (.int .i64 n) ∧ wd.cell? ⟨t5, 0, none⟩ = some (.int .i64 b)) := Lib.hid ⟨hd.p7.cell 0, hd.p7.cell 1, (HCJ.out wd hd.ext).1⟩
            clear hfs hwd hget hcn hfi hd
            gi_wp2_with fail
            refine wp_region_round rfl (fun w' => w'.cell? ⟨t5, 0, none⟩ = some (.int .i64 b)) [(0, .t), (2, .s), (1, .e true), (3, .p)] (by kernel_rfl) ?_ ?_
            · exact fun ⟨_, _, h⟩ => h
            rw [← HWD.out]
            obtain ⟨e0, e1, e2⟩ := HS0.out
            have hS0 : wd.cell? ⟨t5, 0, none⟩ = some (.int .i64 b) := e2
            clear d5 d7 d10 d13 ds q1B q2I HWD
            (repeat ((first | (refine C_p (v := ?_) rfl rfl (fun w' => ?_) ?_; rotate_left; (go_simp; with_reducible rfl)) | (refine C_s (v := ?_) rfl rfl hS0 (fun w' hS => ?_) ?_; rotate_left; ((try dsimp only at hS); go_simp; with_reducible rfl)) | (refine C_t (v := ?_) rfl rfl ?_ ?_; rotate_left; (go_simp; with_reducible rfl)) | (refine C_po rfl rfl ?_) | (refine C_so rfl rfl hS0 ?_) | (refine C_to rfl rfl ?_)); simp only [Act.put, List.setIfInBounds_toArray, List.set_cons_zero, List.set_cons_succ]))
            (refine C_e rfl rfl (fun K hK => ?_); go_simp)
            refine HFS.out.mono ?_
            rintro e w2 ⟨rfl, h2⟩
            obtain ⟨d5, -, -, d7, d10⟩ := HCJ.out w2 h2.ext
            clear HFS HS0 e0 e1 e2 hS0
            (refine hK _ _ (fun _ => d5) ?_; clear hK K; (try simp only [Act.put, List.setIfInBounds_toArray, List.set_cons_zero, List.set_cons_succ]))
            have g0 : w2.cell? ⟨g, 0, none⟩ = some (.int .i64 (l : Nat)) := h2.p7.cell 0
            have g1 : w2.cell? ⟨g, 1, none⟩ = some (.int .i64 n) := h2.p7.cell 1
            obtain ⟨w3, hrun, n3, h3⟩ := run_update_gmap (P := Tryd.prog) (T := 135) Tryd.underlying135 blk_key (show Sat W w2 (sep (gmap bkv m (kV t.K) n0) (sep (kn J) (sep (blk t8 (.cells #[.map none] 135 (0, 0))) (sep (blk t9 (.cells #[.bool false] 4 (0, 0))) (sep (blk t11 (.cells #[.slice la tl lc] 38 (0, 0))) (sep (blk t12 (.cells #[.slice ra tr rc] 38 (0, 0)))
              (sep (blk t13 (.cells #[.int .i64 (ti : Nat)] 3 (0, 0))) (sep (blk g (.cells #[.int .i64 (l : Nat), .int .i64 n] 106 (0, 0))) (sep A B))))))))) from h2.p6) (l, n) (sumV none)
            rw [kV_set] at h3
            have hrun2 : (Instr.mapUpdate 135 (.map (some m)) (.agg #[.int .i64 (l : Nat), .int .i64 n]) (.agg #[.int .u64 0, .bool false])).run Tryd.prog w2 = .ok () w3 := hrun
            obtain ⟨-, -, -, k7, k10⟩ := HCJ.out w3 h3.p1.ext
            have ks := HBC.out w3 h3.p1.ext
            have k13 : w3.cell? ⟨t13, 0, none⟩ = some (.int .i64 (ti : Nat)) := h3.p6.cell 0
            have k13f : w3.frozen? ⟨t13, 0, none⟩ = false := h3.p6.unfrozen 0
            have k11 : w3.cell? ⟨t11, 0, none⟩ = some (.slice la tl lc) := h3.p4.cell 0
            have k12 : w3.cell? ⟨t12, 0, none⟩ = some (.slice ra tr rc) := h3.p5.cell 0
            have H3 := Lib.hid h3
            clear h2 hrun h3 H1
            by_cases q3 : b < fi
            · have q3I : decide (b < fi) = true := decide_eq_true q3
              have HQ3 := Lib.hid q3
              clear q3
              (repeat ((first | (refine C_p (v := ?_) rfl rfl (fun w' => ?_) ?_; rotate_left; (go_simp; with_reducible rfl)) | (refine C_s (v := ?_) rfl rfl hS0 (fun w' hS => ?_) ?_; rotate_left; ((try dsimp only at hS); go_simp; with_reducible rfl)) | (refine C_t (v := ?_) rfl rfl ?_ ?_; rotate_left; (go_simp; with_reducible rfl)) | (refine C_po rfl rfl ?_) | (refine C_so rfl rfl hS0 ?_) | (refine C_to rfl rfl ?_)); simp only [Act.put, List.setIfInBounds_toArray, List.set_cons_zero, List.set_cons_succ]))
              refine C_nil ?_
              by_cases q4 : cn = 1
              · have q4I : ((cn : Int) == 1) = true := by simp [q4]
                by_cases q5 : tr = 0
                · have q5I : ((tr : Int) == 0) = true := by simp [q5]
                  have HNO : Hid (knF b S t0 (pre ++ [(l, n)]) = none) := Lib.hid (by
                    rw [HT.out.1]; unfold stepK; rw [HGE.out.1]; simp only []
                    have hc1 : cb = 1 := UInt8.toNat_inj.1 (by rw [← HGE.out.2.1, q4]; rfl)
                    rw [hc1, if_neg (by decide), if_pos rfl, if_pos (by rw [← HGE.out.2.2]; exact HQ3.out), List.eq_nil_of_length_eq_zero (show t.r.length = 0 by rw [← HT.out.2.2.2.1]; exact q5)])
                  have HZ := Lib.hid (KZ_stop (pre := pre ++ [(l, n)]) HNO.out (show Sat W w3 (sep (kn J) (sep (blk t8 (.cells #[.map none] 135 (0, 0))) (sep (blk t9 (.cells #[.bool false] 4 (0, 0))) (sep (sep (blk t11 (.cells #[.slice la tl lc] 38 (0, 0))) (sep (blk t12 (.cells #[.slice ra tr rc] 38 (0, 0))) (sep (blk t13 (.cells #[.int .i64 (ti : Nat)] 3 (0, 0))) (sep (gmap bkv m (kV (kset t.K (l, n) none)) n3) (blk g (.cells #[.int .i64 (l : Nat), .int .i64 n] 106 (0, 0))))))) (sep A B))))) by
                    have := H3.out
                    simpa only [sep_comm, sep_lcomm, sep_assoc] using this))
                  have c8 : w3.cell? ⟨t8, 0, none⟩ = some (.map none) := (H3.out.p2).cell 0
                  have f8 : w3.frozen? ⟨t8, 0, none⟩ = false := (H3.out.p2).unfrozen 0
                  have c9 : (w3.setCell ⟨t8, 0, none⟩ (.map none)).cell? ⟨t9, 0, none⟩ = some (.bool false) := ((H3.out.p2).setCell 0 (.map none)).p3.cell 0
                  have f9 : (w3.setCell ⟨t8, 0, none⟩ (.map none)).frozen? ⟨t9, 0, none⟩ = false := ((H3.out.p2).setCell 0 (.map none)).p3.unfrozen 0
                  clear q4 q5
                  gi_wp2_with fail
                  exact HZ.out
                · have q5I : ((tr : Int) == 0) = false := by simp; omega
                  obtain ⟨h0, rest, hrest⟩ : ∃ h0 rest, t.r = h0 :: rest := by
                    cases hx : t.r with
                    | nil => exact absurd (by rw [HT.out.2.2.2.1, hx]; rfl) q5
                    | cons h0 rest => exact ⟨h0, rest, rfl⟩
                  have hrl := HT.out.2.2.2.2.2.1
                  rw [hrest] at hrl
                  obtain ⟨hb, ho, a2, c2, hn1, ha, hsl, hrt, hcl⟩ := tail_hs hrl
                  subst ha
                  have hnx : knF b S t0 (pre ++ [(l, n)]) = some ⟨t.i + 1, kset t.K (l, n) (some h0), t.l, rest⟩ := by
                    rw [HT.out.1]; unfold stepK; rw [HGE.out.1]; simp only []
                    have hc1 : cb = 1 := UInt8.toNat_inj.1 (by rw [← HGE.out.2.1, q4]; rfl)
                    rw [hc1, if_neg (by decide), if_pos rfl, if_pos (by rw [← HGE.out.2.2]; exact HQ3.out), hrest]
                  have hd := H3.out.drew
                  obtain ⟨wv, hwv⟩ : ∃ z, z = w3.drew := ⟨_, rfl⟩
                  rw [← hwv] at hd
                  obtain ⟨st, w4, XA, hrE, hX4, hsto⟩ := run_entry_gmap (P := Tryd.prog) (T := 135) Tryd.underlying135 blk_key hd (l, n) (v0 := sumV none) (by show ((kset t.K (l, n) none) (l, n)).map sumV = _; simp [kset])
                  obtain ⟨w5, hrS, h5⟩ := hsto w4 _ (sumV (some h0)) hX4
                  rw [kV_set, kset_kset] at h5
                  have hrE2 : (Instr.mapEntry 135 (.map (some m)) (.agg #[.int .i64 (l : Nat), .int .i64 n])).run Tryd.prog wv = .ok (.tuple #[.agg #[.int .u64 0, .bool false], .int .i64 st]) w4 := hrE
                  have hrS2 : (Instr.entryStore 135 (.map (some m)) (.int .i64 st) (.agg #[.int .u64 (h0 : Nat), .bool true])).run Tryd.prog w4 = .ok () w5 := hrS
                  obtain ⟨rl, hrl'⟩ : ∃ z, z = rest.length := ⟨_, rfl⟩
                  rw [← hrl'] at hsl hrt hn1
                  have h6 := (show Sat W w5 (sep (blk t12 (.cells #[.slice (some ⟨hb, ho, none⟩) tr rc] 38 (0, 0))) _) from h5.p5).setCell 0 (.slice a2 rl c2)
                  obtain ⟨w6, hw6⟩ : ∃ z, z = w5.setCell ⟨t12, 0, none⟩ (.slice a2 rl c2) := ⟨_, rfl⟩
                  rw [← hw6] at h6
                  have h7 := (show Sat W w6 (sep (blk t13 (.cells #[.int .i64 (ti : Nat)] 3 (0, 0))) _) from h6.p6).setCell 0 (.int .i64 ((ti + 1 : Nat) : Int))
                  obtain ⟨w7, hw7⟩ : ∃ z, z = w6.setCell ⟨t13, 0, none⟩ (.int .i64 ((ti + 1 : Nat) : Int)) := ⟨_, rfl⟩
                  rw [← hw7] at h7
                  have HFIN : Hid (Sat W w7 (sep (sep (KC J b S t0 t8 t9 t11 t12 t13 m (pre ++ [(l, n)])) A) B)) := Lib.hid (by
                    have h8 : Sat W w7 (sep (KC J b S t0 t8 t9 t11 t12 t13 m (pre ++ [(l, n)])) (sep (blk g (.cells #[.int .i64 (l : Nat), .int .i64 n] 106 (0, 0))) (sep A B))) := by
                      refine KC_mk (t := ⟨t.i + 1, kset t.K (l, n) (some h0), t.l, rest⟩) (la := la) (lc := lc) (nl := tl) (ra := a2) (rc := c2) (nr := rl) (n := n3) (i := ti + 1) hnx (by rw [List.length_append, ← HT.out.2.2.2.2.2.2.2]; rfl) HT.out.2.2.2.2.1 hrt HT.out.2.2.1 hrl' (by rw [← HT.out.2.1]) ?_
                      simpa only [sep_comm, sep_lcomm, sep_assoc, List.setIfInBounds_toArray, List.set_cons_zero] using h7
                    have h9 := h8.p1.drop
                    simpa only [sep_comm, sep_lcomm, sep_assoc] using h9)
                  have v10 : wv.cell? ⟨t10, 0, none⟩ = some (.map (some m)) := (HCJ.out wv hd.p1.ext).2.2.2.2
                  have vg0 : wv.cell? ⟨g, 0, none⟩ = some (.int .i64 (l : Nat)) := hd.p7.cell 0
                  have vg1 : wv.cell? ⟨g, 1, none⟩ = some (.int .i64 n) := hd.p7.cell 1
                  have vS : wv.cell? ⟨t12, 0, none⟩ = some (.slice (some ⟨hb, ho, none⟩) tr rc) ∧ wv.cell? ⟨hb, ho, none⟩ = some (.int .u64 (h0 : Nat)) := ⟨hd.p5.cell 0, hcl wv hd.p1.ext⟩
                  have HV := Lib.hid (And.intro v10 (And.intro vg0 (And.intro vg1 vS)))
                  have HS4 : Hid (w4.cell? ⟨t12, 0, none⟩ = some (.slice (some ⟨hb, ho, none⟩) tr rc) ∧ w4.cell? ⟨hb, ho, none⟩ = some (.int .u64 (h0 : Nat))) := Lib.hid ⟨hX4.p5.cell 0, hcl w4 hX4.p1.ext⟩
                  have H5 : Hid (w5.cell? ⟨t12, 0, none⟩ = some (.slice (some ⟨hb, ho, none⟩) tr rc) ∧ w5.frozen? ⟨t12, 0, none⟩ = false) := Lib.hid ⟨h5.p5.cell 0, h5.p5.unfrozen 0⟩
                  have H6 : Hid (w6.cell? ⟨t13, 0, none⟩ = some (.int .i64 (ti : Nat)) ∧ w6.frozen? ⟨t13, 0, none⟩ = false) := Lib.hid ⟨h6.p6.cell 0, h6.p6.unfrozen 0⟩
                  have HWV := Lib.hid (And.intro hwv (And.intro hw6 hw7))
                  have hpos : 0 < tr := by omega
                  have HRE := Lib.hid (And.intro hrE2 (And.intro hrS2 hsl))
                  clear hd hX4 hsto hrE hrS h5 h6 h7 hw6 hw7 hwv hnx hrl hrest hrt hcl v10 vg0 vg1 vS hrE2 hrS2 hsl hn1 hrl' q5 q4 H3
                  gi_wp2_with fail
                  refine wp_region_round rfl (fun w' => w'.cell? ⟨t12, 0, none⟩ = some (.slice (some ⟨hb, ho, none⟩) tr rc) ∧ w'.cell? ⟨hb, ho, none⟩ = some (.int .u64 (h0 : Nat))) [(0, .t), (1, .t), (2, .p), (3, .p), (4, .p), (5, .s), (6, .p), (7, .s), (8, .p), (9, .p), (10, .p), (11, .t), (12, .p), (13, .e true), (14, .p), (15, .e false), (16, .p), (17, .e false)] (by kernel_rfl) ?_ ?_
                  · exact fun ⟨_, _, h⟩ => h
                  rw [← HWV.out.1]
                  obtain ⟨v10, vg0, vg1, hS0⟩ := HV.out
                  obtain ⟨v1, v2⟩ := hS0
                  have hS0 := And.intro v1 v2
                  obtain ⟨hrE2, hrS2, hsl⟩ := HRE.out
                  clear k7 k10 ks k13 k13f k11 k12 d5 d7 d10 g0 g1 hrun2
                  (repeat ((first | (refine C_p (v := ?_) rfl rfl (fun w' => ?_) ?_; rotate_left; (go_simp; with_reducible rfl)) | (refine C_s (v := ?_) rfl rfl hS0 (fun w' hS => ?_) ?_; rotate_left; ((try dsimp only at hS); go_simp; with_reducible rfl)) | (refine C_t (v := ?_) rfl rfl ?_ ?_; rotate_left; (go_simp; with_reducible rfl)) | (refine C_po rfl rfl ?_) | (refine C_so rfl rfl hS0 ?_) | (refine C_to rfl rfl ?_)); simp only [Act.put, List.setIfInBounds_toArray, List.set_cons_zero, List.set_cons_succ]))
                  (refine C_e rfl rfl (fun K hK => ?_); go_simp)
                  clear hrE2 v10 vg0 vg1 v1 v2
                  (refine hK _ _ (fun _ => HS4.out) ?_; clear hK K; (try simp only [Act.put, List.setIfInBounds_toArray, List.set_cons_zero, List.set_cons_succ]))
                  (repeat ((first | (refine C_p (v := ?_) rfl rfl (fun w' => ?_) ?_; rotate_left; (go_simp; with_reducible rfl)) | (refine C_s (v := ?_) rfl rfl hS0 (fun w' hS => ?_) ?_; rotate_left; ((try dsimp only at hS); go_simp; with_reducible rfl)) | (refine C_t (v := ?_) rfl rfl ?_ ?_; rotate_left; (go_simp; with_reducible rfl)) | (refine C_po rfl rfl ?_) | (refine C_so rfl rfl hS0 ?_) | (refine C_to rfl rfl ?_)); simp only [Act.put, List.setIfInBounds_toArray, List.set_cons_zero, List.set_cons_succ]))
                  (refine C_e rfl rfl (fun K hK => ?_); go_simp)
                  clear hrS2
                  (refine hK _ _ (fun h => by cases h) ?_; clear hK K; (try simp only [Act.put, List.setIfInBounds_toArray, List.set_cons_zero, List.set_cons_succ]))
                  (repeat ((first | (refine C_p (v := ?_) rfl rfl (fun w' => ?_) ?_; rotate_left; (go_simp; with_reducible rfl)) | (refine C_s (v := ?_) rfl rfl hS0 (fun w' hS => ?_) ?_; rotate_left; ((try dsimp only at hS); go_simp; with_reducible rfl)) | (refine C_t (v := ?_) rfl rfl ?_ ?_; rotate_left; (go_simp; with_reducible rfl)) | (refine C_po rfl rfl ?_) | (refine C_so rfl rfl hS0 ?_) | (refine C_to rfl rfl ?_)); simp only [Act.put, List.setIfInBounds_toArray, List.set_cons_zero, List.set_cons_succ]))
                  obtain ⟨e0, e1⟩ := H5.out
                  (refine C_e rfl rfl (fun K hK => ?_); go_simp)
                  rw [← HWV.out.2.1]
                  (refine hK _ _ (fun h => by cases h) ?_; clear hK K; (try simp only [Act.put, List.setIfInBounds_toArray, List.set_cons_zero, List.set_cons_succ]))
                  refine C_nil ?_
                  clear e0 e1 hsl hS0
                  obtain ⟨e0, e1⟩ := H6.out
                  have hinc : wrap64 ((ti : Int) + 1) = ((ti + 1 : Nat) : Int) := by exact wrap64_eq (by omega) (by omega) (by omega)
                  gi_wp2_with fail
                  have := HFIN.out
                  rw [HWV.out.2.2] at this
                  exact this
              · have q4I : ((cn : Int) == 1) = false := by simp; omega
                have hnx : knF b S t0 (pre ++ [(l, n)]) = some ⟨t.i + 1, kset t.K (l, n) none, t.l, t.r⟩ := by
                  rw [HT.out.1]; unfold stepK; rw [HGE.out.1]; simp only []
                  have hc0 : ¬ cb = 1 := fun e => q4 (by rw [HGE.out.2.1, e]; rfl)
                  have hc1 : ¬ (1 : UInt8) < cb := fun e => q2 (by rw [HGE.out.2.1]; exact UInt8.lt_iff_toNat_lt.1 e)
                  rw [if_neg hc1, if_neg hc0]
                have h7 := (show Sat W w3 (sep (blk t13 (.cells #[.int .i64 (ti : Nat)] 3 (0, 0))) _) from H3.out.p6).setCell 0 (.int .i64 ((ti + 1 : Nat) : Int))
                have HFIN : Hid (Sat W (w3.setCell ⟨t13, 0, none⟩ (.int .i64 ((ti + 1 : Nat) : Int))) (sep (sep (KC J b S t0 t8 t9 t11 t12 t13 m (pre ++ [(l, n)])) A) B)) := Lib.hid (by
                  have h8 : Sat W (w3.setCell ⟨t13, 0, none⟩ (.int .i64 ((ti + 1 : Nat) : Int))) (sep (KC J b S t0 t8 t9 t11 t12 t13 m (pre ++ [(l, n)])) (sep (blk g (.cells #[.int .i64 (l : Nat), .int .i64 n] 106 (0, 0))) (sep A B))) := by
                    refine KC_mk (t := ⟨t.i + 1, kset t.K (l, n) none, t.l, t.r⟩) (la := la) (lc := lc) (ra := ra) (rc := rc) (n := n3) (nl := tl) (nr := tr) (i := ti + 1) hnx (by rw [List.length_append, ← HT.out.2.2.2.2.2.2.2]; rfl) HT.out.2.2.2.2.1 HT.out.2.2.2.2.2.1 HT.out.2.2.1 HT.out.2.2.2.1 (by rw [← HT.out.2.1]) ?_
                    simpa only [sep_comm, sep_lcomm, sep_assoc, List.setIfInBounds_toArray, List.set_cons_zero] using h7
                  have h9 := h8.p1.drop
                  simpa only [sep_comm, sep_lcomm, sep_assoc] using h9)
                have hinc : wrap64 ((ti : Int) + 1) = ((ti + 1 : Nat) : Int) := by exact wrap64_eq (by omega) (by omega) (by omega)
                clear hnx h7 q4 q2
                gi_wp2_with fail
                exact HFIN.out
            · have q3I : decide (b < fi) = false := decide_eq_false q3
              have HQ3 := Lib.hid q3
              clear q3
              (repeat ((first | (refine C_p (v := ?_) rfl rfl (fun w' => ?_) ?_; rotate_left; (go_simp; with_reducible rfl)) | (refine C_s (v := ?_) rfl rfl hS0 (fun w' hS => ?_) ?_; rotate_left; ((try dsimp only at hS); go_simp; with_reducible rfl)) | (refine C_t (v := ?_) rfl rfl ?_ ?_; rotate_left; (go_simp; with_reducible rfl)) | (refine C_po rfl rfl ?_) | (refine C_so rfl rfl hS0 ?_) | (refine C_to rfl rfl ?_)); simp only [Act.put, List.setIfInBounds_toArray, List.set_cons_zero, List.set_cons_succ]))
              refine C_nil ?_
              by_cases q4 : cn = 1
              · have q4I : ((cn : Int) == 1) = true := by simp [q4]
                by_cases q5 : tl = 0
                · have q5I : ((tl : Int) == 0) = true := by simp [q5]
                  have HNO : Hid (knF b S t0 (pre ++ [(l, n)]) = none) := Lib.hid (by
                    rw [HT.out.1]; unfold stepK; rw [HGE.out.1]; simp only []
                    have hc1 : cb = 1 := UInt8.toNat_inj.1 (by rw [← HGE.out.2.1, q4]; rfl)
                    rw [hc1, if_neg (by decide), if_pos rfl, if_neg (by rw [← HGE.out.2.2]; exact HQ3.out), List.eq_nil_of_length_eq_zero (show t.l.length = 0 by rw [← HT.out.2.2.1]; exact q5)])
                  have HZ := Lib.hid (KZ_stop (pre := pre ++ [(l, n)]) HNO.out (show Sat W w3 (sep (kn J) (sep (blk t8 (.cells #[.map none] 135 (0, 0))) (sep (blk t9 (.cells #[.bool false] 4 (0, 0))) (sep (sep (blk t11 (.cells #[.slice la tl lc] 38 (0, 0))) (sep (blk t12 (.cells #[.slice ra tr rc] 38 (0, 0))) (sep (blk t13 (.cells #[.int .i64 (ti : Nat)] 3 (0, 0))) (sep (gmap bkv m (kV (kset t.K (l, n) none)) n3) (blk g (.cells #[.int .i64 (l : Nat), .int .i64 n] 106 (0, 0))))))) (sep A B))))) by
                    have := H3.out
                    simpa only [sep_comm, sep_lcomm, sep_assoc] using this))
                  have c8 : w3.cell? ⟨t8, 0, none⟩ = some (.map none) := (H3.out.p2).cell 0
                  have f8 : w3.frozen? ⟨t8, 0, none⟩ = false := (H3.out.p2).unfrozen 0
                  have c9 : (w3.setCell ⟨t8, 0, none⟩ (.map none)).cell? ⟨t9, 0, none⟩ = some (.bool false) := ((H3.out.p2).setCell 0 (.map none)).p3.cell 0
                  have f9 : (w3.setCell ⟨t8, 0, none⟩ (.map none)).frozen? ⟨t9, 0, none⟩ = false := ((H3.out.p2).setCell 0 (.map none)).p3.unfrozen 0
                  clear q4 q5
                  gi_wp2_with fail
                  exact HZ.out
                · have q5I : ((tl : Int) == 0) = false := by simp; omega
                  obtain ⟨h0, rest, hrest⟩ : ∃ h0 rest, t.l = h0 :: rest := by
                    cases hx : t.l with
                    | nil => exact absurd (by rw [HT.out.2.2.1, hx]; rfl) q5
                    | cons h0 rest => exact ⟨h0, rest, rfl⟩
                  have hrl := HT.out.2.2.2.2.1
                  rw [hrest] at hrl
                  obtain ⟨hb, ho, a2, c2, hn1, ha, hsl, hrt, hcl⟩ := tail_hs hrl
                  subst ha
                  have hnx : knF b S t0 (pre ++ [(l, n)]) = some ⟨t.i + 1, kset t.K (l, n) (some h0), rest, t.r⟩ := by
                    rw [HT.out.1]; unfold stepK; rw [HGE.out.1]; simp only []
                    have hc1 : cb = 1 := UInt8.toNat_inj.1 (by rw [← HGE.out.2.1, q4]; rfl)
                    rw [hc1, if_neg (by decide), if_pos rfl, if_neg (by rw [← HGE.out.2.2]; exact HQ3.out), hrest]
                  have hd := H3.out.drew
                  obtain ⟨wv, hwv⟩ : ∃ z, z = w3.drew := ⟨_, rfl⟩
                  rw [← hwv] at hd
                  obtain ⟨st, w4, XA, hrE, hX4, hsto⟩ := run_entry_gmap (P := Tryd.prog) (T := 135) Tryd.underlying135 blk_key hd (l, n) (v0 := sumV none) (by show ((kset t.K (l, n) none) (l, n)).map sumV = _; simp [kset])
                  obtain ⟨w5, hrS, h5⟩ := hsto w4 _ (sumV (some h0)) hX4
                  rw [kV_set, kset_kset] at h5
                  have hrE2 : (Instr.mapEntry 135 (.map (some m)) (.agg #[.int .i64 (l : Nat), .int .i64 n])).run Tryd.prog wv = .ok (.tuple #[.agg #[.int .u64 0, .bool false], .int .i64 st]) w4 := hrE
                  have hrS2 : (Instr.entryStore 135 (.map (some m)) (.int .i64 st) (.agg #[.int .u64 (h0 : Nat), .bool true])).run Tryd.prog w4 = .ok () w5 := hrS
                  obtain ⟨rl, hrl'⟩ : ∃ z, z = rest.length := ⟨_, rfl⟩
                  rw [← hrl'] at hsl hrt hn1
                  have h6 := (show Sat W w5 (sep (blk t11 (.cells #[.slice (some ⟨hb, ho, none⟩) tl lc] 38 (0, 0))) _) from h5.p4).setCell 0 (.slice a2 rl c2)
                  obtain ⟨w6, hw6⟩ : ∃ z, z = w5.setCell ⟨t11, 0, none⟩ (.slice a2 rl c2) := ⟨_, rfl⟩
                  rw [← hw6] at h6
                  have h7 := (show Sat W w6 (sep (blk t13 (.cells #[.int .i64 (ti : Nat)] 3 (0, 0))) _) from h6.p6).setCell 0 (.int .i64 ((ti + 1 : Nat) : Int))
                  obtain ⟨w7, hw7⟩ : ∃ z, z = w6.setCell ⟨t13, 0, none⟩ (.int .i64 ((ti + 1 : Nat) : Int)) := ⟨_, rfl⟩
                  rw [← hw7] at h7
                  have HFIN : Hid (Sat W w7 (sep (sep (KC J b S t0 t8 t9 t11 t12 t13 m (pre ++ [(l, n)])) A) B)) := Lib.hid (by
                    have h8 : Sat W w7 (sep (KC J b S t0 t8 t9 t11 t12 t13 m (pre ++ [(l, n)])) (sep (blk g (.cells #[.int .i64 (l : Nat), .int .i64 n] 106 (0, 0))) (sep A B))) := by
                      refine KC_mk (t := ⟨t.i + 1, kset t.K (l, n) (some h0), rest, t.r⟩) (la := a2) (lc := c2) (nl := rl) (ra := ra) (rc := rc) (nr := tr) (n := n3) (i := ti + 1) hnx (by rw [List.length_append, ← HT.out.2.2.2.2.2.2.2]; rfl) hrt HT.out.2.2.2.2.2.1 hrl' HT.out.2.2.2.1 (by rw [← HT.out.2.1]) ?_
                      simpa only [sep_comm, sep_lcomm, sep_assoc, List.setIfInBounds_toArray, List.set_cons_zero] using h7
                    have h9 := h8.p1.drop
                    simpa only [sep_comm, sep_lcomm, sep_assoc] using h9)
                  have v10 : wv.cell? ⟨t10, 0, none⟩ = some (.map (some m)) := (HCJ.out wv hd.p1.ext).2.2.2.2
                  have vg0 : wv.cell? ⟨g, 0, none⟩ = some (.int .i64 (l : Nat)) := hd.p7.cell 0
                  have vg1 : wv.cell? ⟨g, 1, none⟩ = some (.int .i64 n) := hd.p7.cell 1
                  have vS : wv.cell? ⟨t11, 0, none⟩ = some (.slice (some ⟨hb, ho, none⟩) tl lc) ∧ wv.cell? ⟨hb, ho, none⟩ = some (.int .u64 (h0 : Nat)) := ⟨hd.p4.cell 0, hcl wv hd.p1.ext⟩
                  have HV := Lib.hid (And.intro v10 (And.intro vg0 (And.intro vg1 vS)))
                  have HS4 : Hid (w4.cell? ⟨t11, 0, none⟩ = some (.slice (some ⟨hb, ho, none⟩) tl lc) ∧ w4.cell? ⟨hb, ho, none⟩ = some (.int .u64 (h0 : Nat))) := Lib.hid ⟨hX4.p4.cell 0, hcl w4 hX4.p1.ext⟩
                  have H5 : Hid (w5.cell? ⟨t11, 0, none⟩ = some (.slice (some ⟨hb, ho, none⟩) tl lc) ∧ w5.frozen? ⟨t11, 0, none⟩ = false) := Lib.hid ⟨h5.p4.cell 0, h5.p4.unfrozen 0⟩
                  have H6 : Hid (w6.cell? ⟨t13, 0, none⟩ = some (.int .i64 (ti : Nat)) ∧ w6.frozen? ⟨t13, 0, none⟩ = false) := Lib.hid ⟨h6.p6.cell 0, h6.p6.unfrozen 0⟩
                  have HWV := Lib.hid (And.intro hwv (And.intro hw6 hw7))
                  have hpos : 0 < tl := by omega
                  have HRE := Lib.hid (And.intro hrE2 (And.intro hrS2 hsl))
                  clear hd hX4 hsto hrE hrS h5 h6 h7 hw6 hw7 hwv hnx hrl hrest hrt hcl v10 vg0 vg1 vS hrE2 hrS2 hsl hn1 hrl' q5 q4 H3
                  gi_wp2_with fail
                  refine wp_region_round rfl (fun w' => w'.cell? ⟨t11, 0, none⟩ = some (.slice (some ⟨hb, ho, none⟩) tl lc) ∧ w'.cell? ⟨hb, ho, none⟩ = some (.int .u64 (h0 : Nat))) [(0, .t), (1, .t), (2, .p), (3, .p), (4, .p), (5, .s), (6, .p), (7, .s), (8, .p), (9, .p), (10, .p), (11, .t), (12, .p), (13, .e true), (14, .p), (15, .e false), (16, .p), (17, .e false)] (by kernel_rfl) ?_ ?_
                  · exact fun ⟨_, _, h⟩ => h
                  rw [← HWV.out.1]
                  obtain ⟨v10, vg0, vg1, hS0⟩ := HV.out
                  obtain ⟨v1, v2⟩ := hS0
                  have hS0 := And.intro v1 v2
                  obtain ⟨hrE2, hrS2, hsl⟩ := HRE.out
                  clear k7 k10 ks k13 k13f k11 k12 d5 d7 d10 g0 g1 hrun2
                  (repeat ((first | (refine C_p (v := ?_) rfl rfl (fun w' => ?_) ?_; rotate_left; (go_simp; with_reducible rfl)) | (refine C_s (v := ?_) rfl rfl hS0 (fun w' hS => ?_) ?_; rotate_left; ((try dsimp only at hS); go_simp; with_reducible rfl)) | (refine C_t (v := ?_) rfl rfl ?_ ?_; rotate_left; (go_simp; with_reducible rfl)) | (refine C_po rfl rfl ?_) | (refine C_so rfl rfl hS0 ?_) | (refine C_to rfl rfl ?_)); simp only [Act.put, List.setIfInBounds_toArray, List.set_cons_zero, List.set_cons_succ]))
                  (refine C_e rfl rfl (fun K hK => ?_); go_simp)
                  clear hrE2 v10 vg0 vg1 v1 v2
                  (refine hK _ _ (fun _ => HS4.out) ?_; clear hK K; (try simp only [Act.put, List.setIfInBounds_toArray, List.set_cons_zero, List.set_cons_succ]))
                  (repeat ((first | (refine C_p (v := ?_) rfl rfl (fun w' => ?_) ?_; rotate_left; (go_simp; with_reducible rfl)) | (refine C_s (v := ?_) rfl rfl hS0 (fun w' hS => ?_) ?_; rotate_left; ((try dsimp only at hS); go_simp; with_reducible rfl)) | (refine C_t (v := ?_) rfl rfl ?_ ?_; rotate_left; (go_simp; with_reducible rfl)) | (refine C_po rfl rfl ?_) | (refine C_so rfl rfl hS0 ?_) | (refine C_to rfl rfl ?_)); simp only [Act.put, List.setIfInBounds_toArray, List.set_cons_zero, List.set_cons_succ]))
                  (refine C_e rfl rfl (fun K hK => ?_); go_simp)
                  clear hrS2
                  (refine hK _ _ (fun h => by cases h) ?_; clear hK K; (try simp only [Act.put, List.setIfInBounds_toArray, List.set_cons_zero, List.set_cons_succ]))
                  (repeat ((first | (refine C_p (v := ?_) rfl rfl (fun w' => ?_) ?_; rotate_left; (go_simp; with_reducible rfl)) | (refine C_s (v := ?_) rfl rfl hS0 (fun w' hS => ?_) ?_; rotate_left; ((try dsimp only at hS); go_simp; with_reducible rfl)) | (refine C_t (v := ?_) rfl rfl ?_ ?_; rotate_left; (go_simp; with_reducible rfl)) | (refine C_po rfl rfl ?_) | (refine C_so rfl rfl hS0 ?_) | (refine C_to rfl rfl ?_)); simp only [Act.put, List.setIfInBounds_toArray, List.set_cons_zero, List.set_cons_succ]))
                  obtain ⟨e0, e1⟩ := H5.out
                  (refine C_e rfl rfl (fun K hK => ?_); go_simp)
                  rw [← HWV.out.2.1]
                  (refine hK _ _ (fun h => by cases h) ?_; clear hK K; (try simp only [Act.put, List.setIfInBounds_toArray, List.set_cons_zero, List.set_cons_succ]))
                  refine C_nil ?_
                  clear e0 e1 hsl hS0
                  obtain ⟨e0, e1⟩ := H6.out
                  have hinc : wrap64 ((ti : Int) + 1) = ((ti + 1 : Nat) : Int) := by exact wrap64_eq (by omega) (by omega) (by omega)
                  gi_wp2_with fail
                  have := HFIN.out
                  rw [HWV.out.2.2] at this
                  exact this
              · have q4I : ((cn : Int) == 1) = false := by simp; omega
                have hnx : knF b S t0 (pre ++ [(l, n)]) = some ⟨t.i + 1, kset t.K (l, n) none, t.l, t.r⟩ := by
                  rw [HT.out.1]; unfold stepK; rw [HGE.out.1]; simp only []
                  have hc0 : ¬ cb = 1 := fun e => q4 (by rw [HGE.out.2.1, e]; rfl)
                  have hc1 : ¬ (1 : UInt8) < cb := fun e => q2 (by rw [HGE.out.2.1]; exact UInt8.lt_iff_toNat_lt.1 e)
                  rw [if_neg hc1, if_neg hc0]
                have h7 := (show Sat W w3 (sep (blk t13 (.cells #[.int .i64 (ti : Nat)] 3 (0, 0))) _) from H3.out.p6).setCell 0 (.int .i64 ((ti + 1 : Nat) : Int))
                have HFIN : Hid (Sat W (w3.setCell ⟨t13, 0, none⟩ (.int .i64 ((ti + 1 : Nat) : Int))) (sep (sep (KC J b S t0 t8 t9 t11 t12 t13 m (pre ++ [(l, n)])) A) B)) := Lib.hid (by
                  have h8 : Sat W (w3.setCell ⟨t13, 0, none⟩ (.int .i64 ((ti + 1 : Nat) : Int))) (sep (KC J b S t0 t8 t9 t11 t12 t13 m (pre ++ [(l, n)])) (sep (blk g (.cells #[.int .i64 (l : Nat), .int .i64 n] 106 (0, 0))) (sep A B))) := by
                    refine KC_mk (t := ⟨t.i + 1, kset t.K (l, n) none, t.l, t.r⟩) (la := la) (lc := lc) (ra := ra) (rc := rc) (n := n3) (nl := tl) (nr := tr) (i := ti + 1) hnx (by rw [List.length_append, ← HT.out.2.2.2.2.2.2.2]; rfl) HT.out.2.2.2.2.1 HT.out.2.2.2.2.2.1 HT.out.2.2.1 HT.out.2.2.2.1 (by rw [← HT.out.2.1]) ?_
                    simpa only [sep_comm, sep_lcomm, sep_assoc, List.setIfInBounds_toArray, List.set_cons_zero] using h7
                  have h9 := h8.p1.drop
                  simpa only [sep_comm, sep_lcomm, sep_assoc] using h9)
                have hinc : wrap64 ((ti : Int) + 1) = ((ti + 1 : Nat) : Int) := by exact wrap64_eq (by omega) (by omega) (by omega)
                clear hnx h7 q4 q2
                gi_wp2_with fail
                exact HFIN.out
        · have q1B : decide ((ns : Int) ≤ (ti : Int)) = true := decide_eq_true (by omega)
          have HNO : Hid (knF b S t0 (pre ++ [(l, n)]) = none) := Lib.hid (by
            rw [HT.out.1]; unfold stepK
            rw [List.getElem?_eq_none (by rw [← HT.out.2.1, ← HN.out.2.2.1]; omega)])
          have HZ := Lib.hid (KZ_stop (pre := pre ++ [(l, n)]) HNO.out (show Sat W w' (sep (kn J) (sep (blk t8 (.cells #[.map none] 135 (0, 0))) (sep (blk t9 (.cells #[.bool false] 4 (0, 0))) (sep (sep (blk t11 (.cells #[.slice la tl lc] 38 (0, 0))) (sep (blk t12 (.cells #[.slice ra tr rc] 38 (0, 0))) (sep (blk t13 (.cells #[.int .i64 (ti : Nat)] 3 (0, 0))) (sep (gmap bkv m (kV t.K) n0) (blk g (.cells #[.int .i64 (l : Nat), .int .i64 n] 106 (0, 0))))))) (sep A B))))) by
            have := H1.out
            simpa only [sep_comm, sep_lcomm, sep_assoc] using this))
          have c8 : w'.cell? ⟨t8, 0, none⟩ = some (.map none) := (H1.out.p1).cell 0
          have f8 : w'.frozen? ⟨t8, 0, none⟩ = false := (H1.out.p1).unfrozen 0
          have c9 : (w'.setCell ⟨t8, 0, none⟩ (.map none)).cell? ⟨t9, 0, none⟩ = some (.bool false) := ((H1.out.p1).setCell 0 (.map none)).p2.cell 0
          have f9 : (w'.setCell ⟨t8, 0, none⟩ (.map none)).frozen? ⟨t9, 0, none⟩ = false := ((H1.out.p1).setCell 0 (.map none)).p2.unfrozen 0
          gi_wp2_with fail
          exact HZ.out
        /-VED3-/
    case done =>
      as_aux_lemma =>
        /-DEV4-/
        intro D xs w' hxs hS
        subst hxs
        rw [sep_emp] at hS
        obtain ⟨t, la, lc, ra, rc, n0, hkn, hti, hla, hra, h22⟩ := KC_open (show Sat W w' (sep (KC J b S t0 t8 t9 t11 t12 t13 m (outL a b 12 0)) (sep A (blk D (.deferred (some []))))) by simpa only [sep_comm, sep_lcomm, sep_assoc] using hS)
        obtain ⟨ti, hti'⟩ : ∃ z, z = t.i := ⟨_, rfl⟩
        obtain ⟨tl, htl⟩ : ∃ z, z = t.l.length := ⟨_, rfl⟩
        obtain ⟨tr, htr⟩ : ∃ z, z = t.r.length := ⟨_, rfl⟩
        have hti4 : ti ≤ 4096 := by rw [hti', hti]; exact outL_top a b
        rw [← hti', ← htl, ← htr] at h22
        have HT := Lib.hid (And.intro hkn (And.intro hti' (And.intro htl htr)))
        have hpn : pn = ps.length := by
          obtain ⟨a', c', e, -⟩ := slice_formQ HR.out.2.2.2.2.1
          simp only [Value.slice.injEq] at e
          exact e.2.1
        have HPN := Lib.hid hpn
        have hpn6 : pn ≤ 1000000 := by rw [hpn]; exact HR.out.2.2.2.2.2.1
        have H22 : Hid (Sat W w' (sep (kn J) (sep (gmap bkv m (kV (knE t.K (ps.take 0))) n0) (sep (blk t8 (.cells #[.map none] 135 (0, 0))) (sep (blk t9 (.cells #[.bool false] 4 (0, 0))) (sep (blk t11 (.cells #[.slice la tl lc] 38 (0, 0))) (sep (blk t12 (.cells #[.slice ra tr rc] 38 (0, 0))) (sep (blk t13 (.cells #[.int .i64 (ti : Nat)] 3 (0, 0))) (sep (blk D (.deferred (some []))) A))))))))) := Lib.hid (by
          rw [List.take_zero]
          show Sat W w' (sep (kn J) (sep (gmap bkv m (kV t.K) n0) _))
          simpa only [sep_comm, sep_lcomm, sep_assoc] using h22)
        clear hS hkn hti hti' htl htr hla hra h22 h21 hpn
        go_wp2_with fail
        go_loopw [78] (fun iv wr => ∃ (j nn : Nat), j ≤ pn ∧ iv = .int .i64 (j : Nat) ∧ Sat W wr (sep (kn J) (sep (gmap bkv m (kV (knE t.K (ps.take j))) nn) (sep (blk t8 (.cells #[.map none] 135 (0, 0))) (sep (blk t9 (.cells #[.bool false] 4 (0, 0))) (sep (blk t11 (.cells #[.slice la tl lc] 38 (0, 0))) (sep (blk t12 (.cells #[.slice ra tr rc] 38 (0, 0))) (sep (blk t13 (.cells #[.int .i64 (ti : Nat)] 3 (0, 0))) (sep (blk D (.deferred (some []))) A))))))))) (fun iv _ => pn - (intOf iv).toNat)
        case atStart => exact ⟨0, n0, Nat.zero_le _, rfl, H22.out⟩
        case round =>
          clear H22
          obtain ⟨j, nn, hj, rfl, hS⟩ := hrel
          by_cases hlt : j < pn
          · have g1 : (j : Int) < (pn : Int) := by omega
            have hjp : j < ps.length := by rw [← HPN.out]; exact hlt
            obtain ⟨pb, po, va, vc, rfl, hcx, hrx⟩ := pair_ext HR.out.2.2.2.2.1 j hjp
            obtain ⟨x1, hx1⟩ : ∃ z, z = ps[j] := ⟨_, rfl⟩
            have hx2 := HR.out.2.2.2.2.2.2 _ (List.getElem_mem hjp)
            have htk : ps.take (j + 1) = ps.take j ++ [x1] := by rw [List.take_succ_eq_append_getElem hjp, ← hx1]
            rw [← hx1] at hcx hrx hx2
            obtain ⟨k1, hk1⟩ : ∃ z, z = x1.1 := ⟨_, rfl⟩
            obtain ⟨vl, hvl⟩ : ∃ z, z = x1.2.length := ⟨_, rfl⟩
            rw [← hk1] at hcx
            rw [← hvl] at hcx hrx
            obtain ⟨f0, f1⟩ := hcx wr hS.ext
            have h23 := hS.alloc (.cells #[.int .i64 k1, .slice va vl vc] 84)
            obtain ⟨t17, ht17⟩ : ∃ z, z = wr.heap.size := ⟨_, rfl⟩
            obtain ⟨w12, hw12⟩ : ∃ z, z = wr.alloc (.cells #[.int .i64 k1, .slice va vl vc] 84) := ⟨_, rfl⟩
            rw [← ht17, ← hw12] at h23
            have hd := h23.drew
            obtain ⟨wd, hwd⟩ : ∃ z, z = w12.drew := ⟨_, rfl⟩
            rw [← hwd] at hd
            obtain ⟨-, -, -, -, d10⟩ := HCJ.out wd hd.p1.ext
            have d0 : wd.cell? ⟨t17, 0, none⟩ = some (.int .i64 k1) := hd.cell 0
            have d1 : wd.cell? ⟨t17, 1, none⟩ = some (.slice va vl vc) := hd.cell 1
            have hlf := aleaf_spec k1 (.slice va vl vc) x1.2 hd.p1 hrx (by omega)
            obtain ⟨lf, hlf'⟩ : ∃ z, z = leafN k1 x1.2 := ⟨_, rfl⟩
            rw [← hlf'] at hlf
            have HLF := Lib.hid hlf
            have HST := Lib.hid (And.intro htk (And.intro hk1 hlf'))
            have HW12 := Lib.hid (And.intro ht17 hw12)
            have HWD := Lib.hid hwd
            clear hS h23 hd hcx hrx hx1 hx2 htk hk1 hvl ht17 hw12 hwd hlf hlf' hjp
            go_upto_region 20 with (fail)
            rw [← HW12.out.1, ← HW12.out.2]
            clear f0 f1 HW12
            refine wp_region_canon rfl (fun w' => w'.cell? ⟨t10, 0, none⟩ = some (.map (some m)) ∧ w'.cell? ⟨t17, 0, none⟩ = some (.int .i64 k1)) [(0, .s), (1, .p), (2, .s), (3, .p), (4, .p), (5, .t), (6, .p), (7, .t), (8, .e true), (9, .p), (10, .e false)] (by kernel_rfl) ?_
            rw [← HWD.out]
            have hS0 : wd.cell? ⟨t10, 0, none⟩ = some (.map (some m)) ∧ wd.cell? ⟨t17, 0, none⟩ = some (.int .i64 k1) := ⟨d10, d0⟩
            clear HWD
            (repeat ((first | (refine C_p (v := ?_) rfl rfl (fun w' => ?_) ?_; rotate_left; (go_simp; with_reducible rfl)) | (refine C_s (v := ?_) rfl rfl hS0 (fun w' hS => ?_) ?_; rotate_left; ((try dsimp only at hS); go_simp; with_reducible rfl)) | (refine C_t (v := ?_) rfl rfl ?_ ?_; rotate_left; (go_simp; with_reducible rfl)) | (refine C_po rfl rfl ?_) | (refine C_so rfl rfl hS0 ?_) | (refine C_to rfl rfl ?_)); simp only [Act.put, List.setIfInBounds_toArray, List.set_cons_zero, List.set_cons_succ]))
            (refine C_e rfl rfl (fun K hK => ?_); go_simp)
            refine HLF.out.mono ?_
            rintro e w13 ⟨rfl, h24⟩
            obtain ⟨-, -, -, -, e10⟩ := HCJ.out w13 h24.ext
            have hS1 : w13.cell? ⟨t10, 0, none⟩ = some (.map (some m)) ∧ w13.cell? ⟨t17, 0, none⟩ = some (.int .i64 k1) := ⟨e10, h24.p1.cell 0⟩
            obtain ⟨w14, hrun, n5, h25⟩ := run_update_gmap (P := Tryd.prog) (T := 135) Tryd.underlying135 blk_key (show Sat W w13 (sep (gmap bkv m (kV (knE t.K (ps.take j))) nn) (sep (kn J) (sep (blk t8 (.cells #[.map none] 135 (0, 0))) (sep (blk t9 (.cells #[.bool false] 4 (0, 0))) (sep (blk t11 (.cells #[.slice la tl lc] 38 (0, 0))) (sep (blk t12 (.cells #[.slice ra tr rc] 38 (0, 0))) (sep (blk t13 (.cells #[.int .i64 (ti : Nat)] 3 (0, 0))) (sep (blk D (.deferred (some []))) A)))))))) by
              have := h24.p1.drop
              simpa only [sep_comm, sep_lcomm, sep_assoc] using this) (0, k1) (sumV (some lf))
            rw [kV_set, show kset (knE t.K (ps.take j)) (0, k1) (some lf) = knE t.K (ps.take (j + 1)) by rw [HST.out.1, knE_snoc, ← HST.out.2.1, ← HST.out.2.2]] at h25
            have hrun2 : (Instr.mapUpdate 135 (.map (some m)) (.agg #[.int .i64 0, .int .i64 k1]) (.agg #[.int .u64 (lf : Nat), .bool true])).run Tryd.prog w13 = .ok () w14 := hrun
            have H25 := Lib.hid h25
            clear HLF h24 hrun h25 d0 d1 d10 hS0 HST
            (refine hK _ _ (fun _ => hS1) ?_; clear hK K; (try simp only [Act.put, List.setIfInBounds_toArray, List.set_cons_zero, List.set_cons_succ]))
            (repeat ((first | (refine C_p (v := ?_) rfl rfl (fun w' => ?_) ?_; rotate_left; (go_simp; with_reducible rfl)) | (refine C_s (v := ?_) rfl rfl hS0 (fun w' hS => ?_) ?_; rotate_left; ((try dsimp only at hS); go_simp; with_reducible rfl)) | (refine C_t (v := ?_) rfl rfl ?_ ?_; rotate_left; (go_simp; with_reducible rfl)) | (refine C_po rfl rfl ?_) | (refine C_so rfl rfl hS0 ?_) | (refine C_to rfl rfl ?_)); simp only [Act.put, List.setIfInBounds_toArray, List.set_cons_zero, List.set_cons_succ]))
            clear hS1 e10
            (refine C_e rfl rfl (fun K hK => ?_); go_simp)
            clear hrun2
            (refine hK _ _ (fun h => by cases h) ?_; clear hK K; (try simp only [Act.put, List.setIfInBounds_toArray, List.set_cons_zero, List.set_cons_succ]))
            refine C_nil ?_
            go_wp2_with fail
            go_roundw
            case rel => exact ⟨j + 1, n5, by omega, by go_num, by have := H25.out; simpa only [sep_comm, sep_lcomm, sep_assoc] using this⟩
            case measure => simp only [intOf]; omega
          · obtain rfl : j = pn := by omega
            have g1 : ¬ (j : Int) < (j : Int) := by omega
            have htk : ps.take j = ps := List.take_of_length_le (by rw [← HPN.out]; exact Nat.le_refl _)
            rw [htk] at hS
            have hd := hS.drew
            obtain ⟨wd, hwd⟩ : ∃ z, z = wr.drew := ⟨_, rfl⟩
            rw [← hwd] at hd
            obtain ⟨-, -, -, d2, d10⟩ := HCJ.out wd hd.ext
            have d11 : wd.cell? ⟨t11, 0, none⟩ = some (.slice la tl lc) := hd.p4.cell 0
            have d12 : wd.cell? ⟨t12, 0, none⟩ = some (.slice ra tr rc) := hd.p5.cell 0
            have d13 : wd.cell? ⟨t13, 0, none⟩ = some (.int .i64 (ti : Nat)) := hd.p6.cell 0
            have c8 : wd.cell? ⟨t8, 0, none⟩ = some (.map none) := hd.p2.cell 0
            have f8 : wd.frozen? ⟨t8, 0, none⟩ = false := hd.p2.unfrozen 0
            have hS0 : wd.cell? ⟨t12, 0, none⟩ = some (.slice ra tr rc) := d12
            have h26 := hd.p2.setCell 0 (.map (some m))
            obtain ⟨w15, hw15⟩ : ∃ z, z = wd.setCell ⟨t8, 0, none⟩ (.map (some m)) := ⟨_, rfl⟩
            rw [← hw15] at h26
            have c9 : w15.cell? ⟨t9, 0, none⟩ = some (.bool false) := h26.p3.cell 0
            have f9 : w15.frozen? ⟨t9, 0, none⟩ = false := h26.p3.unfrozen 0
            have hS1 : w15.cell? ⟨t12, 0, none⟩ = some (.slice ra tr rc) := h26.p5.cell 0
            have H26 := Lib.hid h26
            have HW15 := Lib.hid hw15
            have HWD := Lib.hid hwd
            have fin : ∀ (r : Bool), Hid (∃ hD : (w15.setCell ⟨t9, 0, none⟩ (.bool r)).heap[D]? = some (.deferred (some [])), ∃ w16, w16 = (w15.setCell ⟨t9, 0, none⟩ (.bool r)).putObj D (.deferred none) ∧ w16.cell? ⟨t8, 0, none⟩ = some (.map (some m)) ∧ w16.cell? ⟨t9, 0, none⟩ = some (.bool r) ∧
                Sat W w16 (sep (gmap bkv m (kV (knE t.K ps)) nn) (sep (kn I) A))) := fun r => Lib.hid (by
              have h27 := (show Sat W w15 (sep (blk t9 (.cells #[.bool false] 4 (0, 0))) _) from h26.p3).setCell 0 (.bool r)
              have h28 : Sat W (w15.setCell ⟨t9, 0, none⟩ (.bool r)) (sep (blk D (.deferred (some []))) (sep (blk t8 (.cells #[.map (some m)] 135 (0, 0))) (sep (blk t9 (.cells #[.bool r] 4 (0, 0))) (sep (blk t11 (.cells #[.slice la tl lc] 38 (0, 0))) (sep (blk t12 (.cells #[.slice ra tr rc] 38 (0, 0))) (sep (blk t13 (.cells #[.int .i64 (ti : Nat)] 3 (0, 0))) (sep (kn J) (sep (gmap bkv m (kV (knE t.K ps)) nn) A)))))))) := by
                simpa only [sep_comm, sep_lcomm, sep_assoc, List.setIfInBounds_toArray, List.set_cons_zero] using h27
              refine ⟨h28.blk_heap, _, rfl, (h28.putObj _).p1.cell 0, (h28.putObj _).p2.cell 0, ?_⟩
              have h29 := ((h28.putObj (.deferred none)).drop.drop.drop.drop.drop.drop).kn_mono HR.out.1
              simpa only [sep_comm, sep_lcomm, sep_assoc] using h29)
            have HFI := Lib.hid fin
            clear hS htk hd hw15 hwd h26 fin d12
            go_upto_region 22 with (fail)
            by_cases q1 : ti = ns
            · by_cases q2 : tl = 0
              · by_cases q3 : tr = 0
                · have g2 : ((ti : Int) == (ns : Int)) = true := by simp [q1]
                  have g3 : ((tl : Int) == 0) = true := by simp [q2]
                  have g4 : ((tr : Int) == 0) = true := by simp [q3]
                  have hf : formP a b ps ⟨L, R, S⟩ = some (knE t.K ps) := by
                    have := HT.out.1
                    rw [HN.out.2.2.2.1] at this
                    unfold formP
                    simp only [this]
                    rw [if_pos ⟨by rw [← HT.out.2.1, q1]; exact HN.out.2.2.1, List.eq_nil_of_length_eq_zero (by rw [← HT.out.2.2.1]; exact q2), List.eq_nil_of_length_eq_zero (by rw [← HT.out.2.2.2]; exact q3)⟩]
                  have HF := Lib.hid hf
                  clear q1 q2 q3 hf
                  refine wp_region_canon rfl (fun w' => w'.cell? ⟨t12, 0, none⟩ = some (.slice ra tr rc)) [(0, .t), (1, .t), (2, .p), (3, .t), (4, .p), (5, .p), (6, .p), (7, .t), (8, .p), (9, .p), (10, .p), (11, .p), (12, .s), (13, .p), (14, .p), (15, .p), (16, .e true), (17, .e false)] (by kernel_rfl) ?_
                  rw [← HWD.out]
                  (repeat ((first | (refine C_p (v := ?_) rfl rfl (fun w' => ?_) ?_; rotate_left; (go_simp; with_reducible rfl)) | (refine C_s (v := ?_) rfl rfl hS0 (fun w' hS => ?_) ?_; rotate_left; ((try dsimp only at hS); go_simp; with_reducible rfl)) | (refine C_t (v := ?_) rfl rfl ?_ ?_; rotate_left; (go_simp; with_reducible rfl)) | (refine C_po rfl rfl ?_) | (refine C_so rfl rfl hS0 ?_) | (refine C_to rfl rfl ?_)); simp only [Act.put, List.setIfInBounds_toArray, List.set_cons_zero, List.set_cons_succ]))
                  (refine C_e rfl rfl (fun K hK => ?_); go_simp)
                  rw [← HW15.out]
                  (refine hK _ _ (fun _ => hS1) ?_; clear hK K; (try simp only [Act.put, List.setIfInBounds_toArray, List.set_cons_zero, List.set_cons_succ]))
                  (repeat ((first | (refine C_p (v := ?_) rfl rfl (fun w' => ?_) ?_; rotate_left; (go_simp; with_reducible rfl)) | (refine C_s (v := ?_) rfl rfl hS0 (fun w' hS => ?_) ?_; rotate_left; ((try dsimp only at hS); go_simp; with_reducible rfl)) | (refine C_t (v := ?_) rfl rfl ?_ ?_; rotate_left; (go_simp; with_reducible rfl)) | (refine C_po rfl rfl ?_) | (refine C_so rfl rfl hS0 ?_) | (refine C_to rfl rfl ?_)); simp only [Act.put, List.setIfInBounds_toArray, List.set_cons_zero, List.set_cons_succ]))
                  (refine C_e rfl rfl (fun K hK => ?_); go_simp)
                  (refine hK _ _ (fun h => by cases h) ?_; clear hK K; (try simp only [Act.put, List.setIfInBounds_toArray, List.set_cons_zero, List.set_cons_succ]))
                  refine C_nil ?_
                  clear c8 f8 c9 f9 hS0 hS1 d2 d10 d11 d13 H26
                  go_wp2_with fail
                  obtain ⟨hD, w16, hw16, y0, y1, hfin⟩ := (HFI.out true).out
                  refine ⟨by simp, .inl ⟨_, _, rfl, run_takeDeferred hD, ?_⟩⟩
                  rw [← hw16]
                  refine ⟨.tuple #[.map (some m), .bool true], ?_, ?_⟩
                  · simp [results, Tryd.results75, go_sem, y0, y1]
                  · exact .inr ⟨_, HF.out, m, rfl, nn, hfin⟩
                · have g2 : ((ti : Int) == (ns : Int)) = true := by simp [q1]
                  have g3 : ((tl : Int) == 0) = true := by simp [q2]
                  have g4 : ((tr : Int) == 0) = false := by simp [q3]
                  have hf : formP a b ps ⟨L, R, S⟩ = none := by
                    have := HT.out.1
                    rw [HN.out.2.2.2.1] at this
                    unfold formP
                    simp only [this]
                    rw [if_neg (fun h => q3 (by rw [HT.out.2.2.2, h.2.2]; rfl))]
                  have HF := Lib.hid hf
                  clear q1 q2 q3 hf
                  refine wp_region_canon rfl (fun w' => w'.cell? ⟨t12, 0, none⟩ = some (.slice ra tr rc)) [(0, .t), (1, .t), (2, .p), (3, .t), (4, .p), (5, .p), (6, .p), (7, .t), (8, .p), (9, .p), (10, .p), (11, .p), (12, .s), (13, .p), (14, .p), (15, .p), (16, .e true), (17, .e false)] (by kernel_rfl) ?_
                  rw [← HWD.out]
                  (repeat ((first | (refine C_p (v := ?_) rfl rfl (fun w' => ?_) ?_; rotate_left; (go_simp; with_reducible rfl)) | (refine C_s (v := ?_) rfl rfl hS0 (fun w' hS => ?_) ?_; rotate_left; ((try dsimp only at hS); go_simp; with_reducible rfl)) | (refine C_t (v := ?_) rfl rfl ?_ ?_; rotate_left; (go_simp; with_reducible rfl)) | (refine C_po rfl rfl ?_) | (refine C_so rfl rfl hS0 ?_) | (refine C_to rfl rfl ?_)); simp only [Act.put, List.setIfInBounds_toArray, List.set_cons_zero, List.set_cons_succ]))
                  (refine C_e rfl rfl (fun K hK => ?_); go_simp)
                  rw [← HW15.out]
                  (refine hK _ _ (fun _ => hS1) ?_; clear hK K; (try simp only [Act.put, List.setIfInBounds_toArray, List.set_cons_zero, List.set_cons_succ]))
                  (repeat ((first | (refine C_p (v := ?_) rfl rfl (fun w' => ?_) ?_; rotate_left; (go_simp; with_reducible rfl)) | (refine C_s (v := ?_) rfl rfl hS0 (fun w' hS => ?_) ?_; rotate_left; ((try dsimp only at hS); go_simp; with_reducible rfl)) | (refine C_t (v := ?_) rfl rfl ?_ ?_; rotate_left; (go_simp; with_reducible rfl)) | (refine C_po rfl rfl ?_) | (refine C_so rfl rfl hS0 ?_) | (refine C_to rfl rfl ?_)); simp only [Act.put, List.setIfInBounds_toArray, List.set_cons_zero, List.set_cons_succ]))
                  (refine C_e rfl rfl (fun K hK => ?_); go_simp)
                  (refine hK _ _ (fun h => by cases h) ?_; clear hK K; (try simp only [Act.put, List.setIfInBounds_toArray, List.set_cons_zero, List.set_cons_succ]))
                  refine C_nil ?_
                  clear c8 f8 c9 f9 hS0 hS1 d2 d10 d11 d13 H26
                  go_wp2_with fail
                  obtain ⟨hD, w16, hw16, y0, y1, hfin⟩ := (HFI.out false).out
                  refine ⟨by simp, .inl ⟨_, _, rfl, run_takeDeferred hD, ?_⟩⟩
                  rw [← hw16]
                  refine ⟨.tuple #[.map (some m), .bool false], ?_, ?_⟩
                  · simp [results, Tryd.results75, go_sem, y0, y1]
                  · exact .inl ⟨HF.out, ⟨_, rfl⟩, hfin.drop⟩
              · have g2 : ((ti : Int) == (ns : Int)) = true := by simp [q1]
                have g3 : ((tl : Int) == 0) = false := by simp [q2]
                have hf : formP a b ps ⟨L, R, S⟩ = none := by
                  have := HT.out.1
                  rw [HN.out.2.2.2.1] at this
                  unfold formP
                  simp only [this]
                  rw [if_neg (fun h => q2 (by rw [HT.out.2.2.1, h.2.1]; rfl))]
                have HF := Lib.hid hf
                clear q1 q2 hf
                refine wp_region_canon rfl (fun w' => w'.cell? ⟨t12, 0, none⟩ = some (.slice ra tr rc)) [(0, .t), (1, .t), (2, .p), (3, .t), (4, .p), (5, .p), (6, .p), (7, .t), (8, .p), (9, .p), (10, .p), (11, .p), (12, .s), (13, .p), (14, .p), (15, .p), (16, .e true), (17, .e false)] (by kernel_rfl) ?_
                rw [← HWD.out]
                (repeat ((first | (refine C_p (v := ?_) rfl rfl (fun w' => ?_) ?_; rotate_left; (go_simp; with_reducible rfl)) | (refine C_s (v := ?_) rfl rfl hS0 (fun w' hS => ?_) ?_; rotate_left; ((try dsimp only at hS); go_simp; with_reducible rfl)) | (refine C_t (v := ?_) rfl rfl ?_ ?_; rotate_left; (go_simp; with_reducible rfl)) | (refine C_po rfl rfl ?_) | (refine C_so rfl rfl hS0 ?_) | (refine C_to rfl rfl ?_)); simp only [Act.put, List.setIfInBounds_toArray, List.set_cons_zero, List.set_cons_succ]))
                (refine C_e rfl rfl (fun K hK => ?_); go_simp)
                rw [← HW15.out]
                (refine hK _ _ (fun _ => hS1) ?_; clear hK K; (try simp only [Act.put, List.setIfInBounds_toArray, List.set_cons_zero, List.set_cons_succ]))
                (repeat ((first | (refine C_p (v := ?_) rfl rfl (fun w' => ?_) ?_; rotate_left; (go_simp; with_reducible rfl)) | (refine C_s (v := ?_) rfl rfl hS0 (fun w' hS => ?_) ?_; rotate_left; ((try dsimp only at hS); go_simp; with_reducible rfl)) | (refine C_t (v := ?_) rfl rfl ?_ ?_; rotate_left; (go_simp; with_reducible rfl)) | (refine C_po rfl rfl ?_) | (refine C_so rfl rfl hS0 ?_) | (refine C_to rfl rfl ?_)); simp only [Act.put, List.setIfInBounds_toArray, List.set_cons_zero, List.set_cons_succ]))
                (refine C_e rfl rfl (fun K hK => ?_); go_simp)
                (refine hK _ _ (fun h => by cases h) ?_; clear hK K; (try simp only [Act.put, List.setIfInBounds_toArray, List.set_cons_zero, List.set_cons_succ]))
                refine C_nil ?_
                clear c8 f8 c9 f9 hS0 hS1 d2 d10 d11 d13 H26
                go_wp2_with fail
                obtain ⟨hD, w16, hw16, y0, y1, hfin⟩ := (HFI.out false).out
                refine ⟨by simp, .inl ⟨_, _, rfl, run_takeDeferred hD, ?_⟩⟩
                rw [← hw16]
                refine ⟨.tuple #[.map (some m), .bool false], ?_, ?_⟩
                · simp [results, Tryd.results75, go_sem, y0, y1]
                · exact .inl ⟨HF.out, ⟨_, rfl⟩, hfin.drop⟩
            · have g2 : ((ti : Int) == (ns : Int)) = false := by simp; omega
              have hf : formP a b ps ⟨L, R, S⟩ = none := by
                have := HT.out.1
                rw [HN.out.2.2.2.1] at this
                unfold formP
                simp only [this]
                rw [if_neg (fun h => q1 (by rw [HT.out.2.1, h.1]; exact HN.out.2.2.1.symm))]
              have HF := Lib.hid hf
              clear q1 hf
              refine wp_region_canon rfl (fun w' => w'.cell? ⟨t12, 0, none⟩ = some (.slice ra tr rc)) [(0, .t), (1, .t), (2, .p), (3, .t), (4, .p), (5, .p), (6, .p), (7, .t), (8, .p), (9, .p), (10, .p), (11, .p), (12, .s), (13, .p), (14, .p), (15, .p), (16, .e true), (17, .e false)] (by kernel_rfl) ?_
              rw [← HWD.out]
              (repeat ((first | (refine C_p (v := ?_) rfl rfl (fun w' => ?_) ?_; rotate_left; (go_simp; with_reducible rfl)) | (refine C_s (v := ?_) rfl rfl hS0 (fun w' hS => ?_) ?_; rotate_left; ((try dsimp only at hS); go_simp; with_reducible rfl)) | (refine C_t (v := ?_) rfl rfl ?_ ?_; rotate_left; (go_simp; with_reducible rfl)) | (refine C_po rfl rfl ?_) | (refine C_so rfl rfl hS0 ?_) | (refine C_to rfl rfl ?_)); simp only [Act.put, List.setIfInBounds_toArray, List.set_cons_zero, List.set_cons_succ]))
              (refine C_e rfl rfl (fun K hK => ?_); go_simp)
              rw [← HW15.out]
              (refine hK _ _ (fun _ => hS1) ?_; clear hK K; (try simp only [Act.put, List.setIfInBounds_toArray, List.set_cons_zero, List.set_cons_succ]))
              (repeat ((first | (refine C_p (v := ?_) rfl rfl (fun w' => ?_) ?_; rotate_left; (go_simp; with_reducible rfl)) | (refine C_s (v := ?_) rfl rfl hS0 (fun w' hS => ?_) ?_; rotate_left; ((try dsimp only at hS); go_simp; with_reducible rfl)) | (refine C_t (v := ?_) rfl rfl ?_ ?_; rotate_left; (go_simp; with_reducible rfl)) | (refine C_po rfl rfl ?_) | (refine C_so rfl rfl hS0 ?_) | (refine C_to rfl rfl ?_)); simp only [Act.put, List.setIfInBounds_toArray, List.set_cons_zero, List.set_cons_succ]))
              (refine C_e rfl rfl (fun K hK => ?_); go_simp)
              (refine hK _ _ (fun h => by cases h) ?_; clear hK K; (try simp only [Act.put, List.setIfInBounds_toArray, List.set_cons_zero, List.set_cons_succ]))
              refine C_nil ?_
              clear c8 f8 c9 f9 hS0 hS1 d2 d10 d11 d13 H26
              go_wp2_with fail
              obtain ⟨hD, w16, hw16, y0, y1, hfin⟩ := (HFI.out false).out
              refine ⟨by simp, .inl ⟨_, _, rfl, run_takeDeferred hD, ?_⟩⟩
              rw [← hw16]
              refine ⟨.tuple #[.map (some m), .bool false], ?_, ?_⟩
              · simp [results, Tryd.results75, go_sem, y0, y1]
              · exact .inl ⟨HF.out, ⟨_, rfl⟩, hfin.drop⟩
        /-VED4-/
    case stop =>
      as_aux_lemma =>
        /-DEV5-/
        intro D c xs w' hys hS
        obtain ⟨ys, hys⟩ := hys
        rw [sep_emp] at hS
        cases c with
        | ret =>
          have h1 : Sat W w' (sep (fact (knF b S t0 xs = none)) (sep (kn J) (sep (blk t8 (.cells #[.map none] 135 (0, 0))) (sep (blk t9 (.cells #[.bool false] 4 (0, 0))) (sep A (blk D (.deferred (some []))))))))  := by
            have h0 := hS
            unfold KZ at h0
            simpa only [sep_comm, sep_lcomm, sep_assoc] using h0
          obtain ⟨hno, h2⟩ := Sat.fact.1 h1
          have hf : formP a b ps ⟨L, R, S⟩ = none := by
            have := knF_stop ys hno
            rw [hys, HN.out.2.2.2.1] at this
            unfold formP
            simp only [this]
          have h3 : Sat W w' (sep (blk D (.deferred (some []))) (sep (blk t8 (.cells #[.map none] 135 (0, 0))) (sep (blk t9 (.cells #[.bool false] 4 (0, 0))) (sep (kn J) A)))) := by simpa only [sep_comm, sep_lcomm, sep_assoc] using h2
          have hD := h3.blk_heap
          have h4 := h3.putObj (.deferred none)
          have y0 := h4.p1.cell 0
          have y1 := h4.p2.cell 0
          have h5 := (h4.drop.drop.drop).kn_mono HR.out.1
          have H5 := Lib.hid (And.intro hf h5)
          clear hS h1 h2 h3 h4 h5 hno hf hys h21
          gi_wp2_with fail
          refine ⟨by simp, .inl ⟨_, _, rfl, run_takeDeferred hD, ?_⟩⟩
          refine ⟨.tuple #[.map none, .bool false], ?_, ?_⟩
          · simp [results, Tryd.results75, go_sem, y0, y1]
          · exact .inl ⟨H5.out.1, _, rfl, H5.out.2⟩
        | _ => exact absurd (Sat.fact.1 (show Sat W w' (sep (fact False) (sep A (blk D (.deferred (some []))))) by have h0 := hS; unfold KZ at h0; simpa only [sep_comm, sep_lcomm, sep_assoc] using h0)).1 (fun h => h)
        /-VED5-/
end Go.Proofs.YtcmjbjlliehdiaaDoor
