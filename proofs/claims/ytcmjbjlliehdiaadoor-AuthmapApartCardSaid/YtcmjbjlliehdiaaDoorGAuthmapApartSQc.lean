/- Map.Copy. -/
import Derived.Test.YtcmjbjlliehdiaaDoorGAuthmapApart44
import Derived.Test.YtcmjbjlliehdiaaDoorGAuthmapApart12
namespace Go.Proofs.YtcmjbjlliehdiaaDoor
open Go.RowKit PA
attribute [local go_sem] Oper.semAt_some
set_option maxRecDepth 100000 in
set_option maxHeartbeats 4000000 in
theorem amapscopy_spec {W w : World} {A : Assn} (b c n1 n2 : Nat) (g : Nat × Int → Option Value) (h : Sat W w (sep (gmap bkv b (fun _ => none) n1) (sep (gmap bkv c g n2) A))) :
    Calls Tryd.prog 81 #[.map (some b), .map (some c)] w fun e w' => e = .returned (.tuple #[]) ∧ ∃ n3, Sat W w' (sep (gmap bkv b g n3) (sep (gmap bkv c g n2) A)) := by
  obtain ⟨w1, hrun, h1⟩ := run_range_gmap (P := Tryd.prog) (T := 90) Tryd.underlying90 h.p1
  obtain ⟨r, hr⟩ : ∃ r, r = w.heap.size := ⟨_, rfl⟩
  rw [← hr] at hrun h1
  clear h hr
  go_enter Tryd.func81, Tryd.ntmps81
  go_wp2_with fail
  go_loopw [] (fun wr => ∃ (fd : Nat × Int → Option Value) (nd cnt : Nat) (lf : Nat × Int → Bool), Hid (∀ k, fd k = if lf k = true then none else g k) ∧ Sat W wr (sep (grng bkv c r g n2 lf cnt) (sep (gmap bkv b fd nd) A))) (fun wr => wr.rangeLeft c r)
  case atStart =>
    refine ⟨_, n1, n2, _, Lib.hid fun k => ?_, h1⟩
    cases hk : g k with
    | none => simp
    | some v => simp
  case round =>
    clear h1 hrun
    obtain ⟨fd, nd, cnt, lf, HF, hS⟩ := hrel
    have hcnt := hS.grng_left
    rcases run_next_grng (P := Tryd.prog) bkv_inj 0 hS with ⟨hno, hrun⟩ | ⟨⟨l, n⟩, v, w2, cnt2, lf2, hlk, hfk, hlt, hrun, hen, hl2, hS2⟩
    · have e : fd = g := by
        funext k
        rw [HF.out k, hno k, if_neg (by simp)]
      have h2 := hS.grng_end
      rw [e] at h2
      have H2 := Lib.hid h2
      clear hno hcnt e h2 hS HF
      go_wp2_with fail
      go_end0
      exact ⟨rfl, nd, H2.out.p1⟩
    · simp only [bkv] at hrun hen
      have h3 := hS2.alloc (.cells #[.int .i64 (l : Nat), .int .i64 n] 106)
      have c0 : (w2.alloc (.cells #[.int .i64 (l : Nat), .int .i64 n] 106)).cell? ⟨w2.heap.size, 0, none⟩ = some (.int .i64 (l : Nat)) := h3.cell 0
      have c1 : (w2.alloc (.cells #[.int .i64 (l : Nat), .int .i64 n] 106)).cell? ⟨w2.heap.size, 1, none⟩ = some (.int .i64 n) := h3.cell 1
      obtain ⟨w4, hup0, nd2, h4⟩ := run_update_gmap (P := Tryd.prog) (T := 90) Tryd.underlying90 blk_key (show Sat W (w2.alloc (.cells #[.int .i64 (l : Nat), .int .i64 n] 106)) (sep (gmap bkv b fd nd) (sep (grng bkv c r g n2 lf2 cnt2) A)) by
        have := h3.drop
        simpa only [sep_comm, sep_lcomm, sep_assoc] using this) (l, n) v
      have hup : (Instr.mapUpdate 90 (.map (some b)) (.agg #[.int .i64 (l : Nat), .int .i64 n]) v).run Tryd.prog (w2.alloc (.cells #[.int .i64 (l : Nat), .int .i64 n] 106)) = .ok () w4 := hup0
      have H4 : Hid (Sat W w4 (sep (grng bkv c r g n2 lf2 cnt2) (sep (gmap bkv b (gset fd (l, n) (some v)) nd2) A))) := Lib.hid h4.p1
      have HN : Hid (∀ k, gset fd (l, n) (some v) k = if lf2 k = true then none else g k) := Lib.hid fun k => by
        by_cases e : k = (l, n)
        · have : ¬ lf2 k = true := fun h => ((hl2 k).1 h).2 e
          rw [if_neg this, e, gset_same, hfk]
        · rw [gset_other _ _ e, HF.out k]
          cases hk : lf k with
          | true => rw [if_pos rfl, if_pos ((hl2 k).2 ⟨hk, e⟩)]
          | false => rw [if_neg (by simp), if_neg (fun h => by rw [((hl2 k).1 h).1] at hk; cases hk)]
      have HC := Lib.hid (And.intro hlt hcnt)
      clear hlk hfk hlt hl2 hS2 h3 hup0 h4 hS HF hcnt
      go_wp2_with fail
      go_roundw
      case rel => exact ⟨_, nd2, cnt2, lf2, HN, H4.out⟩
      case measure => rw [H4.out.grng_left, HC.out.2]; exact HC.out.1
theorem vok_look {W w : World} {R : Assn} {I : Mem} {f : Int → Option Value} {M : KVs} {k : Int} {x : List UInt8} (h : Sat W w (sep (vokA f M) (sep (kn I) R))) (hx : M k = some x) :
    ∃ a c J, f k = some (.slice a x.length c) ∧ (0 ≤ k ∧ k ≤ 4095 ∧ x.length ≤ 65536) ∧ Mem.le I J ∧ rBytes.rel J [.slice a x.length c] x ∧ Sat W w (sep (vokA f M) (sep (kn J) R)) := by
  obtain ⟨J, hJ, hV, h2⟩ := h.learn
  obtain ⟨h1, a, c, e, hr⟩ := hV.2 k x hx
  exact ⟨a, c, J, e, h1, hJ, hr, h2.tell hV⟩
set_option maxRecDepth 100000 in
set_option maxHeartbeats 8000000 in
theorem acopy_spec {W w : World} {A : Assn} {I : Mem} (p : Nat) (M : KVs) (h : Sat W w (sep (isAM p M) (sep (kn I) A))) :
    Calls Tryd.prog 43 #[.pointer (some ⟨p, 0, none⟩)] w fun e w' => ∃ q, e = .returned (.pointer (some ⟨q, 0, none⟩)) ∧ Sat W w' (sep (isAM q M) (sep (isAM p M) (sep (kn I) A))) := by
  obtain ⟨b1, f, b2, n2, h0⟩ := isAM_open h
  have HNEW := Lib.hid (anew_spec h0)
  have HM := Lib.hid h0
  clear h h0
  go_enter Tryd.func43, Tryd.ntmps43
  go_wp2_with fail
  refine HNEW.out.mono ?_
  rintro e w1 ⟨q, rfl, h1⟩
  obtain ⟨b3, f3, b4, n4, h2⟩ := isAM_open h1
  have hM0 : hmF (fun _ => none) = fun _ => none := hmF_empty
  rw [hM0] at h2
  have c0 : w1.cell? ⟨p, 0, none⟩ = some (.map (some b1)) := h2.p4.cell 0
  have h3 : Sat W w1 (sep (bmap b1 f (nkeys M)) (sep (blk q (.cells (amC b3 b4) 92 (0, 0))) (sep (bmap b3 f3 (nkeys fun _ => none)) (sep (vokA f3 fun _ => none) (sep (gmap bkv b4 (fun _ => none) n4) (sep (blk p (.cells (amC b1 b2) 92 (0, 0))) (sep (gmap bkv b2 (hmF M) n2) (sep (vokA f M) (sep (kn I) A))))))))) := by
    simpa only [sep_comm, sep_lcomm, sep_assoc] using h2
  obtain ⟨w2, hrun, h4⟩ := run_range_bmap (P := Tryd.prog) (T := 89) Tryd.underlying89 h3
  obtain ⟨r, hr⟩ : ∃ r, r = w1.heap.size := ⟨_, rfl⟩
  rw [← hr] at hrun h4
  have hsome := (show Sat W w1 (sep (vokA f M) (sep (kn I) (sep (bmap b1 f (nkeys M)) (sep (blk q (.cells (amC b3 b4) 92 (0, 0))) (sep (bmap b3 f3 (nkeys fun _ => none)) (sep (vokA f3 fun _ => none) (sep (gmap bkv b4 (fun _ => none) n4) (sep (blk p (.cells (amC b1 b2) 92 (0, 0))) (sep (gmap bkv b2 (hmF M) n2) A))))))))) by simpa only [sep_comm, sep_lcomm, sep_assoc] using h3).pers_heap.isSome
  obtain ⟨RS, hRS⟩ : ∃ RS, RS = sep (gmap bkv b4 (fun _ => none) n4) (sep (blk p (.cells (amC b1 b2) 92 (0, 0))) (sep (gmap bkv b2 (hmF M) n2) A)) := ⟨_, rfl⟩
  have HRS := Lib.hid hRS
  have H4 : Hid (Sat W w2 (sep (rng b1 r f (nkeys M) (fun k => (f k).isSome) (nkeys M)) (sep (blk q (.cells (amC b3 b4) 92 (0, 0))) (sep (bmap b3 f3 (nkeys fun _ => none)) (sep (vokA f3 fun _ => none) (sep (vokA f M) (sep (kn I) RS))))))) := Lib.hid (by
    rw [hRS]
    simpa only [sep_comm, sep_lcomm, sep_assoc] using h4)
  have HSM := Lib.hid hsome
  clear HNEW h1 h2 h3 h4 hr hsome hRS hM0 HM
  go_wp2_with fail
  go_loopw [] (fun wr => ∃ (f3 : Int → Option Value) (M3 : KVs) (cnt : Nat) (lf : Int → Bool) (J : Mem), Hid (∀ k, M3 k = if lf k = true then none else M k) ∧ Hid (Mem.le I J) ∧ Sat W wr (sep (rng b1 r f (nkeys M) lf cnt) (sep (blk q (.cells (amC b3 b4) 92 (0, 0))) (sep (bmap b3 f3 (nkeys M3)) (sep (vokA f3 M3) (sep (vokA f M) (sep (kn J) RS))))))) (fun wr => wr.rangeLeft b1 r)
  case atStart =>
    refine ⟨f3, fun _ => none, _, _, I, Lib.hid fun k => ?_, Lib.hid (Mem.le_refl _), H4.out⟩
    rw [HSM.out k]
    cases hk : M k with
    | none => simp
    | some v => simp
  case round =>
    clear H4 hrun c0
    obtain ⟨f4, M3, cnt, lf, J, HF, HJ, hS⟩ := hrel
    have hcnt := hS.rng_left
    have hvk := (show Sat W wr (sep (vokA f M) (sep (kn J) (sep (rng b1 r f (nkeys M) lf cnt) (sep (blk q (.cells (amC b3 b4) 92 (0, 0))) (sep (bmap b3 f4 (nkeys M3)) (sep (vokA f4 M3) RS)))))) by simpa only [sep_comm, sep_lcomm, sep_assoc] using hS)
    rcases run_next_rng (P := Tryd.prog) 0 hS with ⟨hno, hrun⟩ | ⟨k, v, w3, cnt2, hlk, hfk, hlt, hrun, hen, hS2⟩
    · have e : M3 = M := by
        funext k
        rw [HF.out k, hno k, if_neg (by simp)]
      subst e
      have h5 := hS.rng_end
      have h6 : Sat W wr.drew (sep (gmap bkv b4 (fun _ => none) n4) (sep (gmap bkv b2 (hmF M3) n2) (sep (blk p (.cells (amC b1 b2) 92 (0, 0))) (sep (blk q (.cells (amC b3 b4) 92 (0, 0))) (sep (bmap b3 f4 (nkeys M3)) (sep (bmap b1 f (nkeys M3)) (sep (vokA f4 M3) (sep (vokA f M3) (sep (kn J) A))))))))) := by
        rw [HRS.out] at h5
        have := h5.drew
        simpa only [sep_comm, sep_lcomm, sep_assoc] using this
      have d0 : wr.drew.cell? ⟨p, 1, none⟩ = some (.map (some b2)) := h6.p2.cell 1
      have d1 : wr.drew.cell? ⟨q, 1, none⟩ = some (.map (some b4)) := h6.p3.cell 1
      have HCP := Lib.hid (amapscopy_spec b4 b2 n4 n2 (hmF M3) h6)
      clear hno hcnt h5 h6 hS HF hvk
      go_wp2_with fail
      refine wp_region_canon rfl (fun _ => True) [(0, .p), (1, .p), (2, .p), (3, .t), (4, .p), (5, .p), (6, .p), (7, .t), (8, .e false)] (by kernel_rfl) ?_
      have hS0 : True := trivial
      (repeat (first | (refine C_p (v := ?_) rfl rfl (fun w' => ?_) ?_; rotate_left; (go_simp; with_reducible rfl); simp only [Act.put, List.setIfInBounds_toArray, List.set_cons_zero, List.set_cons_succ]) | (refine C_s (v := ?_) rfl rfl hS0 (fun w' hS => ?_) ?_; rotate_left; ((try dsimp only at hS); go_simp; with_reducible rfl); simp only [Act.put, List.setIfInBounds_toArray, List.set_cons_zero, List.set_cons_succ]) | (refine C_t (v := ?_) rfl rfl ?_ ?_; rotate_left; (go_simp; with_reducible rfl); simp only [Act.put, List.setIfInBounds_toArray, List.set_cons_zero, List.set_cons_succ]) | (refine C_po rfl rfl ?_; simp only [Act.put, List.setIfInBounds_toArray, List.set_cons_zero, List.set_cons_succ]) | (refine C_so rfl rfl hS0 ?_; simp only [Act.put, List.setIfInBounds_toArray, List.set_cons_zero, List.set_cons_succ]) | (refine C_to rfl rfl ?_; simp only [Act.put, List.setIfInBounds_toArray, List.set_cons_zero, List.set_cons_succ])))
      (refine C_e rfl rfl (fun K hK => ?_); go_simp)
      refine HCP.out.mono ?_
      rintro e w5 ⟨rfl, n5, h7⟩
      have h8 := isAM_mk (p := p) (M := M3) (b1 := b1) (b2 := b2) (f := f) (n2 := n2) (A := sep (blk q (.cells (amC b3 b4) 92 (0, 0))) (sep (bmap b3 f4 (nkeys M3)) (sep (gmap bkv b4 (hmF M3) n5) (sep (vokA f4 M3) (sep (kn J) A))))) (by simpa only [sep_comm, sep_lcomm, sep_assoc] using h7)
      have h9 := isAM_mk (p := q) (M := M3) (b1 := b3) (b2 := b4) (f := f4) (n2 := n5) (A := sep (isAM p M3) (sep (kn J) A)) (by simpa only [sep_comm, sep_lcomm, sep_assoc] using h8)
      have H9 : Hid (Sat W w5 (sep (isAM q M3) (sep (isAM p M3) (sep (kn I) A)))) := Lib.hid (by
        have := (show Sat W w5 (sep (kn J) (sep (isAM q M3) (sep (isAM p M3) A))) by simpa only [sep_comm, sep_lcomm, sep_assoc] using h9).kn_mono HJ.out
        simpa only [sep_comm, sep_lcomm, sep_assoc] using this)
      clear HCP h7 h8 h9 d0 d1 hS0 hrun
      (refine hK _ _ (fun h => by cases h) ?_; clear hK K; (try simp only [Act.put, List.setIfInBounds_toArray, List.set_cons_zero, List.set_cons_succ]))
      refine C_nil ?_
      go_wp2_with fail
      go_ret
      exact ⟨q, rfl, H9.out⟩
    · have hms : (M k).isSome = true := by rw [← hvk.pers_heap.isSome k, hfk]; rfl
      obtain ⟨x, hx⟩ := Option.isSome_iff_exists.1 hms
      obtain ⟨a, c, Jx, hfe, hkr, hJx, hrx, hS3⟩ := vok_look (show Sat W w3 (sep (vokA f M) (sep (kn J) (sep (rng b1 r f (nkeys M) (fun z => lf z && z != k) cnt2) (sep (blk q (.cells (amC b3 b4) 92 (0, 0))) (sep (bmap b3 f4 (nkeys M3)) (sep (vokA f4 M3) RS)))))) by simpa only [sep_comm, sep_lcomm, sep_assoc] using hS2) hx
      rw [hfk] at hfe
      obtain rfl := Option.some.inj hfe
      obtain ⟨wd, hwd⟩ : ∃ wd, wd = w3.drew := ⟨_, rfl⟩
      have h5 := hS3.drew
      rw [← hwd] at h5
      obtain ⟨hr1, hr2, hr3⟩ := rel_src' hrx
      have hcl := clone_any a x.length c (x.map bv) h5 (hr3 wd h5.p1.ext) (by simp) hr2 (bv_one x) (by have := hkr.2.2; omega)
      have hM3k : M3 k = none := by rw [HF.out k, hlk, if_pos rfl]
      obtain ⟨xl, hxl⟩ : ∃ xl, xl = x.length := ⟨_, rfl⟩
      rw [← hxl] at hcl hrun hen
      have hS0 : wd.cell? ⟨q, 0, none⟩ = some (.map (some b3)) := h5.p3.cell 0
      have HCL := Lib.hid hcl
      have HX := Lib.hid (And.intro hxl (And.intro hx (And.intro hkr (And.intro hM3k (And.intro hJx hrx)))))
      have HC := Lib.hid (And.intro hlt hcnt)
      clear hvk hms hx hfk hlk hlt hcnt hkr hJx hrx hS hS2 hS3 h5 hr1 hr2 hr3 hcl hM3k hxl
      go_wp2_with fail
      refine wp_region_canon rfl (fun w' => w'.cell? ⟨q, 0, none⟩ = some (.map (some b3))) [(0, .p), (1, .p), (2, .p), (3, .s), (4, .p), (5, .p), (6, .e true), (7, .e false)] (by kernel_rfl) ?_
      rw [← hwd]
      clear hwd
      (repeat (first | (refine C_p (v := ?_) rfl rfl (fun w' => ?_) ?_; rotate_left; (go_simp; with_reducible rfl); simp only [Act.put, List.setIfInBounds_toArray, List.set_cons_zero, List.set_cons_succ]) | (refine C_s (v := ?_) rfl rfl hS0 (fun w' hS => ?_) ?_; rotate_left; ((try dsimp only at hS); go_simp; with_reducible rfl); simp only [Act.put, List.setIfInBounds_toArray, List.set_cons_zero, List.set_cons_succ]) | (refine C_t (v := ?_) rfl rfl ?_ ?_; rotate_left; (go_simp; with_reducible rfl); simp only [Act.put, List.setIfInBounds_toArray, List.set_cons_zero, List.set_cons_succ]) | (refine C_po rfl rfl ?_; simp only [Act.put, List.setIfInBounds_toArray, List.set_cons_zero, List.set_cons_succ]) | (refine C_so rfl rfl hS0 ?_; simp only [Act.put, List.setIfInBounds_toArray, List.set_cons_zero, List.set_cons_succ]) | (refine C_to rfl rfl ?_; simp only [Act.put, List.setIfInBounds_toArray, List.set_cons_zero, List.set_cons_succ])))
      (refine C_e rfl rfl (fun K hK => ?_); go_simp)
      refine HCL.out.mono ?_
      rintro e w4 ⟨a', c', rfl, h6⟩
      obtain ⟨J2, hJ2, hr', h7⟩ := osl_learnQ (show Sat W w4 (sep (osl 5 1 a' xl c' (x.map bv)) (sep (kn Jx) (sep (vokA f M) (sep (rng b1 r f (nkeys M) (fun z => lf z && z != k) cnt2) (sep (blk q (.cells (amC b3 b4) 92 (0, 0))) (sep (bmap b3 f4 (nkeys M3)) (sep (vokA f4 M3) RS))))))) by simpa only [sep_comm, sep_lcomm, sep_assoc] using h6) HX.out.1
      have hS1 : w4.cell? ⟨q, 0, none⟩ = some (.map (some b3)) := h7.p3.cell 0
      have hb3 : Sat W w4 (sep (bmap b3 f4 (nkeys M3)) (sep (vokA f4 M3) (sep (kn J2) (sep (vokA f M) (sep (rng b1 r f (nkeys M) (fun z => lf z && z != k) cnt2) (sep (blk q (.cells (amC b3 b4) 92 (0, 0))) RS)))))) := by simpa only [sep_comm, sep_lcomm, sep_assoc] using h7
      have hvs := hb3.p1.pers_heap.isSome k
      obtain ⟨w5, n', hup, hn', h8⟩ := run_update_bmap (P := Tryd.prog) (T := 89) Tryd.underlying89 Tryd.underlying3 hb3 k (.slice a' xl c')
      have hn2 : n' = nkeys (fset M3 k (some x)) := by
        rw [hn', hvs, HX.out.2.2.2.1, nkeys_new x HX.out.2.2.1.1 HX.out.2.2.1.2.1 HX.out.2.2.2.1, if_neg (by simp)]
      rw [hn2] at h8
      have h9 := vokA_step (M' := fset M3 k (some x)) (f' := fset f4 k (some (.slice a' xl c'))) (show Sat W w5 (sep (vokA f4 M3) (sep (kn J2) (sep (bmap b3 (fset f4 k (some (.slice a' xl c'))) (nkeys (fset M3 k (some x)))) (sep (vokA f M) (sep (rng b1 r f (nkeys M) (fun z => lf z && z != k) cnt2) (sep (blk q (.cells (amC b3 b4) 92 (0, 0))) RS)))))) by simpa only [sep_comm, sep_lcomm, sep_assoc] using h8) (fun K hK hvk => by
        have hr2 := rBytes.mono hK hr'
        have e := HX.out.1
        rw [e] at hr2 ⊢
        exact hvk.put k x HX.out.2.2.1 hr2)
      have H9 : Hid (Sat W w5 (sep (rng b1 r f (nkeys M) (fun z => lf z && z != k) cnt2) (sep (blk q (.cells (amC b3 b4) 92 (0, 0))) (sep (bmap b3 (fset f4 k (some (.slice a' xl c'))) (nkeys (fset M3 k (some x)))) (sep (vokA (fset f4 k (some (.slice a' xl c'))) (fset M3 k (some x))) (sep (vokA f M) (sep (kn J2) RS))))))) := Lib.hid (by
        simpa only [sep_comm, sep_lcomm, sep_assoc] using h9)
      have HN : Hid (∀ z, fset M3 k (some x) z = if (lf z && z != k) = true then none else M z) := Lib.hid fun z => by
        unfold fset
        by_cases e : z = k
        · rw [if_pos e, e, HX.out.2.1]; simp
        · rw [if_neg e, HF.out z]
          have : (z != k) = true := by simp [e]
          rw [this, Bool.and_true]
      have HJ2 := Lib.hid (Mem.le_trans HJ.out (Mem.le_trans HX.out.2.2.2.2.1 hJ2))
      clear HCL h6 h7 hb3 hvs hn' hn2 h8 h9 hJ2 hr' hS0
      have hS0 := hS1
      (refine hK _ _ (fun _ => hS1) ?_; clear hK K; (try simp only [Act.put, List.setIfInBounds_toArray, List.set_cons_zero, List.set_cons_succ]))
      (repeat (first | (refine C_p (v := ?_) rfl rfl (fun w' => ?_) ?_; rotate_left; (go_simp; with_reducible rfl); simp only [Act.put, List.setIfInBounds_toArray, List.set_cons_zero, List.set_cons_succ]) | (refine C_s (v := ?_) rfl rfl hS0 (fun w' hS => ?_) ?_; rotate_left; ((try dsimp only at hS); go_simp; with_reducible rfl); simp only [Act.put, List.setIfInBounds_toArray, List.set_cons_zero, List.set_cons_succ]) | (refine C_t (v := ?_) rfl rfl ?_ ?_; rotate_left; (go_simp; with_reducible rfl); simp only [Act.put, List.setIfInBounds_toArray, List.set_cons_zero, List.set_cons_succ]) | (refine C_po rfl rfl ?_; simp only [Act.put, List.setIfInBounds_toArray, List.set_cons_zero, List.set_cons_succ]) | (refine C_so rfl rfl hS0 ?_; simp only [Act.put, List.setIfInBounds_toArray, List.set_cons_zero, List.set_cons_succ]) | (refine C_to rfl rfl ?_; simp only [Act.put, List.setIfInBounds_toArray, List.set_cons_zero, List.set_cons_succ])))
      (refine C_e rfl rfl (fun K hK => ?_); go_simp)
      clear hup hS0 hS1
      (refine hK _ _ (fun h => by cases h) ?_; clear hK K; (try simp only [Act.put, List.setIfInBounds_toArray, List.set_cons_zero, List.set_cons_succ]))
      refine C_nil ?_
      go_wp2_with fail
      go_roundw
      case rel => exact ⟨_, _, cnt2, _, J2, HN, HJ2, H9.out⟩
      case measure => rw [H9.out.rng_left, HC.out.2]; exact HC.out.1
end Go.Proofs.YtcmjbjlliehdiaaDoor
