/- ChannelEncoding, the walk. -/
import Derived.Test.YtnmkdidhilekiaaE6
import Derived.Test.YtnmkdidhilekiaaDet
namespace Go.Proofs.Ytnmkdidhilekiaa
open Go.RowKit PA
theorem infoBytesE : (Try.prog.info? 31).map (fun i => (i.zero, i.size, i.bytes)) = some (some (.slice none 0 0), 1, 24) := by kernel_rfl
theorem _root_.PA.Sat.tell2 {W w : World} {A X : Assn} {I : Mem} {p : Mem → Prop} {hp : ∀ I J, Mem.le I J → p I → p J} (h : Sat W w (sep X (sep (kn I) A))) (hI : p I) : Sat W w (sep (pers p hp) (sep X (sep (kn I) A))) := by
  have h1 : Sat W w (sep (kn I) (sep X A)) := h.p1
  have h2 : Sat W w (sep (pers p hp) (sep (kn I) (sep X A))) := h1.tell hI
  simpa only [sep_comm, sep_lcomm, sep_assoc] using h2
set_option maxHeartbeats 8000000 in
set_option maxRecDepth 100000 in
theorem channelEncoding_walk (s0 k0 : Int) (ab : Option Addr) (lb cb0 : Nat) (zb : List Int) (a1 a2 : Int) (a3 : Option Addr) (len3 cap3 : Nat) (z3 : List Int) (w : World) (i0 : I64 s0) (i1 : I64 k0) (i2 : IsArgB w ab lb cb0 zb) (i3 : I64 a1) (i4 : 0 ≤ a2 ∧ a2 ≤ 255) (i5 : IsArgB w a3 len3 cap3 z3) :
    Calls Try.prog 8 #[.agg #[.int .i64 s0, .int .i64 k0, .slice ab lb cb0], .int .i64 a1, .int .u8 a2, .slice a3 len3 cap3] w fun e w' => e = .returned (.bool true) ∧ Below w.heap.size w w' := by
  obtain ⟨l, rfl, hsw, hsrc⟩ := argB i2
  obtain ⟨raw, rfl, hsw3, hsrc3⟩ := argB i5
  have HI0 := Lib.hid i0
  have HI1 := Lib.hid i1
  have HI3 := Lib.hid i3
  have HI4 := Lib.hid i4
  have HRAW := Lib.hid hsrc3
  have HSW3 := Lib.hid hsw3
  obtain ⟨q, hq⟩ : ∃ q, q = w.heap.size := ⟨_, rfl⟩
  have hA := (Sat.start w).alloc (.cells #[.int .i64 s0, .int .i64 k0, .slice ab l.length cb0] 44)
  obtain ⟨w1, hw1⟩ : ∃ w1, w1 = w.alloc (.cells #[.int .i64 s0, .int .i64 k0, .slice ab l.length cb0] 44) := ⟨_, rfl⟩
  have hfew := few_any ab cb0 l 40 hA hsw (fun b hb => old_src (hsrc b hb) _) (by omega)
  have hgr : ∀ b, a3 = some b → ∀ j u, (raw.map bv)[j]? = some u → w1.cell? (b.add j) = some u := fun b hb => by rw [hw1]; exact old_src (hsrc3 b hb) _
  rw [← hq, ← hw1] at hA
  rw [← hw1, ← hq] at hfew
  obtain ⟨c0, c1, c2, f0, f1, f2⟩ := pk3 hA
  have HFEW := Lib.hid hfew
  have HQ := Lib.hid hq
  have HW1 := Lib.hid hw1
  clear i0 i1 i2 i3 i4 i5 hsw hsrc hsw3 hsrc3 hfew hq hw1 hA hgr
  go_enter Try.func8, Try.ntmps8
  go_upto_region 1 with (fail)
  rw [← HQ.out, ← HW1.out]
  go_wp2_with fail
  refine HFEW.out.mono ?_
  rintro e w2 ⟨a5, c5, rfl, hS⟩
  obtain ⟨b, hb⟩ : ∃ b, b = l.take 40 := ⟨_, rfl⟩
  have hbl : b.length ≤ 40 := by rw [hb, List.length_take]; omega
  rw [← hb] at hS ⊢
  obtain ⟨I0, hS1⟩ := hS.bytes_of_osl.2.know
  obtain ⟨I1, -, hbb, hS2⟩ := hS1.p1.learn
  clear c0 c1 c2 f0 f1 f2 HFEW
  obtain ⟨n5, hn5⟩ : ∃ n5, n5 = b.length := ⟨_, rfl⟩
  rw [← hn5] at hbb ⊢
  obtain ⟨c0, c1, c2, f0, f1, f2⟩ := pk3 hS2.p1
  have h3 : Sat w (w2.setCell ⟨q, 2, none⟩ (.slice a5 n5 c5)) (sep (blk q (.cells #[.int .i64 s0, .int .i64 k0, .slice a5 n5 c5] 44 (0, 0))) (sep (kn I1) emp)) := hS2.p1.setCell 2 _
  obtain ⟨I, hle, hJq, hS4⟩ := h3.settle.learn
  obtain ⟨w3, hw3⟩ : ∃ w3, w3 = w2.setCell ⟨q, 2, none⟩ (.slice a5 n5 c5) := ⟨_, rfl⟩
  rw [← hw3] at hS4
  have HBB := Lib.hid (rBytes.mono hle hbb)
  have HJQ := Lib.hid hJq
  have HW3 := Lib.hid hw3
  have HBL := Lib.hid hbl
  have HN5 := Lib.hid hn5
  clear hS hS1 hS2 h3 hle hbb hJq hw3 hb hbl hn5
  go_upto_region 2 with (fail)
  rw [← HW3.out]
  clear c0 c1 c2 f0 f1 f2
  have hx := hS4.ext
  have c0 : w3.cell? ⟨q, 0, none⟩ = some (.int .i64 s0) := ext_cell HJQ.out hx
  have c1 : w3.cell? ⟨q, 1, none⟩ = some (.int .i64 k0) := ext_cell HJQ.out hx
  have c2 : w3.cell? ⟨q, 2, none⟩ = some (.slice a5 n5 c5) := ext_cell HJQ.out hx
  clear hx
  have henc := encode_any ⟨s0, k0, b⟩ (.slice a5 n5 c5) hS4 HBB.out HI0.out HI1.out (by show b.length ≤ _; have := HBL.out; omega)
  have hX1l := encP_length ⟨s0, k0, b⟩ HI0.out HI1.out (by show b.length ≤ _; have := HBL.out; omega)
  obtain ⟨X1, hX1⟩ : ∃ X1, X1 = (encP ⟨s0, k0, b⟩).1 := ⟨_, rfl⟩
  obtain ⟨er, her⟩ : ∃ er, er = (encP ⟨s0, k0, b⟩).2 := ⟨_, rfl⟩
  rw [← hX1, ← her] at henc
  rw [← hX1] at hX1l
  have hX1l2 : X1.length ≤ 90 := by have := HBL.out; have : X1.length ≤ b.length + 50 := hX1l; omega
  have HENC := Lib.hid henc
  have HX1 := Lib.hid hX1
  have HER := Lib.hid her
  have HX1L := Lib.hid hX1l2
  clear henc hX1l hX1 her hX1l2 hS4
  go_wp2_with fail
  refine HENC.out.mono ?_
  rintro e w4 ⟨a6, c6, rfl, hS5⟩
  obtain ⟨J1, hle1, hv1, hS6⟩ := hS5.learn
  have HV1 := Lib.hid hv1
  have HQ1 := Lib.hid (hle1 _ _ HJQ.out)
  have HB1 := Lib.hid (rBytes.mono hle1 HBB.out)
  clear c0 c1 c2 HENC hS5 hle1 hv1
  have hx := hS6.ext
  have c0 : w4.cell? ⟨q, 0, none⟩ = some (.int .i64 s0) := ext_cell HQ1.out hx
  have c1 : w4.cell? ⟨q, 1, none⟩ = some (.int .i64 k0) := ext_cell HQ1.out hx
  have c2 : w4.cell? ⟨q, 2, none⟩ = some (.slice a5 n5 c5) := ext_cell HQ1.out hx
  clear hx
  obtain ⟨n6, hn6⟩ : ∃ n6, n6 = X1.length := ⟨_, rfl⟩
  rw [← hn6] at HV1
  rw [← hn6]
  have HN6 := Lib.hid hn6
  clear hn6
  go_wp2_with fail
  refine (plain_spec s0 k0 a5 n5 c5 hS6).mono ?_
  rintro e w5 ⟨rfl, -, hS7⟩
  clear c0 c1 c2 hS6
  have henc := rencode_any ⟨s0, k0, b⟩ (.slice a5 n5 c5) hS7 HB1.out HI0.out HI1.out (by show b.length ≤ _; have := HBL.out; omega)
  rw [← HX1.out, ← HER.out, ← HN6.out] at henc
  have HENC := Lib.hid henc
  clear henc hS7
  go_wp2_with fail
  refine HENC.out.mono ?_
  rintro e w6 ⟨a7, c7, rfl, hS8⟩
  obtain ⟨J2, hle2, hv2, hS9⟩ := hS8.learn
  have HV1' := Lib.hid (rBytes.mono hle2 HV1.out)
  have hsb := (sameBytes_spec (.slice a6 n6 c6) (.slice a7 n6 c7) X1 X1 ((hS9.tell hv2).tell2 HV1'.out))
  rw [decide_eq_true (rfl : X1 = X1)] at hsb
  have HSB := Lib.hid hsb
  have be : ((er : Int) != er) = false := by simp
  have HV2 := Lib.hid hv2
  have HQ2 := Lib.hid (hle2 _ _ HQ1.out)
  have HV1b := Lib.hid HV1'.out
  have HB2 := Lib.hid (rBytes.mono hle2 HB1.out)
  clear hS8 hS9 hsb hv2 hle2 HENC
  go_wp2_with fail
  refine HSB.out.mono ?_
  rintro e w7 ⟨rfl, hS10⟩
  have h10 : Sat w w7 (sep (kn J2) emp) := hS10.drop.drop
  clear hS10 HSB be
  go_upto_region 6 with (fail)
  have hx := h10.drew.ext
  have d0 : w7.drew.cell? ⟨q, 0, none⟩ = some (.int .i64 s0) := ext_cell HQ2.out hx
  have d1 : w7.drew.cell? ⟨q, 1, none⟩ = some (.int .i64 k0) := ext_cell HQ2.out hx
  have d2 : w7.drew.cell? ⟨q, 2, none⟩ = some (.slice a5 n5 c5) := ext_cell HQ2.out hx
  have hA8 := (h10.alloc (.cells #[.int .i64 0, .int .i64 0, .slice none 0 0] 40)).drew
  obtain ⟨q13, hq13⟩ : ∃ q13, q13 = w7.heap.size := ⟨_, rfl⟩
  obtain ⟨w8, hw8⟩ : ∃ w8, w8 = (w7.alloc (.cells #[.int .i64 0, .int .i64 0, .slice none 0 0] 40)).drew := ⟨_, rfl⟩
  rw [← hq13, ← hw8] at hA8
  have hx2 := hA8.p1.ext
  have g0 : w8.cell? ⟨q, 0, none⟩ = some (.int .i64 s0) := ext_cell HQ2.out hx2
  have g1 : w8.cell? ⟨q, 1, none⟩ = some (.int .i64 k0) := ext_cell HQ2.out hx2
  have g2 : w8.cell? ⟨q, 2, none⟩ = some (.slice a5 n5 c5) := ext_cell HQ2.out hx2
  have HQ13 := Lib.hid hq13
  have HW8 := Lib.hid hw8
  obtain ⟨x0, hx0⟩ : ∃ x0, x0 = aroundI s0 300 := ⟨_, rfl⟩
  obtain ⟨x1, hx1⟩ : ∃ x1, x1 = aroundI k0 300 := ⟨_, rfl⟩
  have hr0 : 0 ≤ x0 ∧ x0 < 300 := by rw [hx0]; exact aroundI_lt s0 300 (by omega)
  have hr1 : 0 ≤ x1 ∧ x1 < 300 := by rw [hx1]; exact aroundI_lt k0 300 (by omega)
  have hq0 : ∀ w', Calls Try.prog 12 #[.int .i64 s0, .int .i64 300] w' fun e w2 => e = .returned (.int .i64 x0) ∧ w2 = w' := fun w' => by rw [hx0]; exact (around_spec s0 300 w' HI0.out.1 HI0.out.2 (by omega) (by omega)).mono fun _ _ ⟨x, y⟩ => ⟨x, y.symm⟩
  have hq1 : ∀ w', Calls Try.prog 12 #[.int .i64 k0, .int .i64 300] w' fun e w2 => e = .returned (.int .i64 x1) ∧ w2 = w' := fun w' => by rw [hx1]; exact (around_spec k0 300 w' HI1.out.1 HI1.out.2 (by omega) (by omega)).mono fun _ _ ⟨x, y⟩ => ⟨x, y.symm⟩
  have hwr : IntKind.i64.wrap (1 + x0) = 1 + x0 := IntWalk.i64_in _ (by omega)
  have HR0 := Lib.hid hr0
  have HR1 := Lib.hid hr1
  have HQ0 := Lib.hid hq0
  have HQ1' := Lib.hid hq1
  have hg3 : w8.cell? ⟨q, 0, none⟩ = some (.int .i64 s0) ∧ w8.cell? ⟨q, 1, none⟩ = some (.int .i64 k0) ∧ w8.cell? ⟨q, 2, none⟩ = some (.slice a5 n5 c5) := ⟨g0, g1, g2⟩
  have HG := Lib.hid hg3
  have h0I : (0 : Int) ≤ x0 := hr0.1
  have h1I : x0 < 300 := hr0.2
  have hS0 : w7.drew.cell? ⟨q, 0, none⟩ = some (.int .i64 s0) ∧ w7.drew.cell? ⟨q, 1, none⟩ = some (.int .i64 k0) ∧ w7.drew.cell? ⟨q, 2, none⟩ = some (.slice a5 n5 c5) := ⟨d0, d1, d2⟩
  clear hx hx2 g0 g1 g2 hx0 hx1 hr0 hr1 hq0 hq1 d0 d1 d2 hg3 hq13 hw8 h10
  refine PQ.wp_region_canon rfl (fun w' => w'.cell? ⟨q, 0, none⟩ = some (.int .i64 s0) ∧ w'.cell? ⟨q, 1, none⟩ = some (.int .i64 k0) ∧ w'.cell? ⟨q, 2, none⟩ = some (.slice a5 n5 c5)) [(0, .p), (4, .p), (7, .p), (1, .s), (5, .s), (8, .s), (2, .p), (3, .p), (6, .p), (9, .p), (10, .e true), (11, .e false)] (by kernel_rfl) ?_
  (repeat (first | (refine PQ.C_p (v := ?_) rfl rfl (fun w' => ?_) ?_; rotate_left; (go_simp; with_reducible rfl); simp only [Act.put, List.setIfInBounds_toArray, List.set_cons_zero, List.set_cons_succ]) | (refine PQ.C_s (v := ?_) rfl rfl hS0 (fun w' hS => ?_) ?_; rotate_left; ((try dsimp only at hS); go_simp; with_reducible rfl); simp only [Act.put, List.setIfInBounds_toArray, List.set_cons_zero, List.set_cons_succ]) | (refine PQ.C_t (v := ?_) rfl rfl ?_ ?_; rotate_left; (go_simp; with_reducible rfl); simp only [Act.put, List.setIfInBounds_toArray, List.set_cons_zero, List.set_cons_succ]) | (refine PQ.C_po rfl rfl ?_; simp only [Act.put, List.setIfInBounds_toArray, List.set_cons_zero, List.set_cons_succ]) | (refine PQ.C_so rfl rfl hS0 ?_; simp only [Act.put, List.setIfInBounds_toArray, List.set_cons_zero, List.set_cons_succ]) | (refine PQ.C_to rfl rfl ?_; simp only [Act.put, List.setIfInBounds_toArray, List.set_cons_zero, List.set_cons_succ])))
  (refine PQ.C_q rfl rfl (fun w' => ?_) (fun w' => HQ0.out w') ?_; (go_simp; try with_reducible rfl); simp only [Act.put, List.setIfInBounds_toArray, List.set_cons_zero, List.set_cons_succ])
  (repeat (first | (refine PQ.C_p (v := ?_) rfl rfl (fun w' => ?_) ?_; rotate_left; (go_simp; with_reducible rfl); simp only [Act.put, List.setIfInBounds_toArray, List.set_cons_zero, List.set_cons_succ]) | (refine PQ.C_s (v := ?_) rfl rfl hS0 (fun w' hS => ?_) ?_; rotate_left; ((try dsimp only at hS); go_simp; with_reducible rfl); simp only [Act.put, List.setIfInBounds_toArray, List.set_cons_zero, List.set_cons_succ]) | (refine PQ.C_t (v := ?_) rfl rfl ?_ ?_; rotate_left; (go_simp; with_reducible rfl); simp only [Act.put, List.setIfInBounds_toArray, List.set_cons_zero, List.set_cons_succ]) | (refine PQ.C_po rfl rfl ?_; simp only [Act.put, List.setIfInBounds_toArray, List.set_cons_zero, List.set_cons_succ]) | (refine PQ.C_so rfl rfl hS0 ?_; simp only [Act.put, List.setIfInBounds_toArray, List.set_cons_zero, List.set_cons_succ]) | (refine PQ.C_to rfl rfl ?_; simp only [Act.put, List.setIfInBounds_toArray, List.set_cons_zero, List.set_cons_succ])))
  (refine PQ.C_q rfl rfl (fun w' => ?_) (fun w' => HQ1'.out w') ?_; (go_simp; try with_reducible rfl); simp only [Act.put, List.setIfInBounds_toArray, List.set_cons_zero, List.set_cons_succ])
  (repeat (first | (refine PQ.C_p (v := ?_) rfl rfl (fun w' => ?_) ?_; rotate_left; (go_simp; with_reducible rfl); simp only [Act.put, List.setIfInBounds_toArray, List.set_cons_zero, List.set_cons_succ]) | (refine PQ.C_s (v := ?_) rfl rfl hS0 (fun w' hS => ?_) ?_; rotate_left; ((try dsimp only at hS); go_simp; with_reducible rfl); simp only [Act.put, List.setIfInBounds_toArray, List.set_cons_zero, List.set_cons_succ]) | (refine PQ.C_t (v := ?_) rfl rfl ?_ ?_; rotate_left; (go_simp; with_reducible rfl); simp only [Act.put, List.setIfInBounds_toArray, List.set_cons_zero, List.set_cons_succ]) | (refine PQ.C_po rfl rfl ?_; simp only [Act.put, List.setIfInBounds_toArray, List.set_cons_zero, List.set_cons_succ]) | (refine PQ.C_so rfl rfl hS0 ?_; simp only [Act.put, List.setIfInBounds_toArray, List.set_cons_zero, List.set_cons_succ]) | (refine PQ.C_to rfl rfl ?_; simp only [Act.put, List.setIfInBounds_toArray, List.set_cons_zero, List.set_cons_succ])))
  (refine PQ.C_e rfl rfl (fun K hK => ?_); go_simp)
  rw [← HW8.out, ← HQ13.out]
  (refine hK _ _ (fun _ => HG.out) ?_; clear hK K; (try simp only [Act.put, List.setIfInBounds_toArray, List.set_cons_zero, List.set_cons_succ]))
  obtain ⟨c0, c1, c2, f0, f1, f2⟩ := pk3 hA8
  (refine PQ.C_e rfl rfl (fun K hK => ?_); go_simp)
  have h9 := pk3_set hA8 (.int .i64 (1 + x0)) (.int .i64 x1) (.slice a5 n5 c5)
  obtain ⟨w9, hw9⟩ : ∃ w9, w9 = (((w8.setCell ⟨q13, 0, none⟩ (.int .i64 (1 + x0))).setCell ⟨q13, 1, none⟩ (.int .i64 x1)).setCell ⟨q13, 2, none⟩ (.slice a5 n5 c5)) := ⟨_, rfl⟩
  rw [← hw9] at h9 ⊢
  clear c0 c1 c2 f0 f1 f2 hA8 hw9 hS0
  (refine hK _ _ (fun h => by cases h) ?_; clear hK K; (try simp only [Act.put, List.setIfInBounds_toArray, List.set_cons_zero, List.set_cons_succ]))
  refine PQ.C_nil ?_
  obtain ⟨G, hG⟩ : ∃ G : Pkt, G = ⟨1 + x0, x1, b⟩ := ⟨_, rfl⟩
  have hGI1 : I64 (1 + x0) := ⟨by have := HR0.out; omega, by have := HR0.out; omega⟩
  have hGI2 : I64 x1 := ⟨by have := HR1.out; omega, by have := HR1.out; omega⟩
  have hGv : validP ⟨1 + x0, x1, b⟩ = true := by
    unfold validP validB
    have := HR0.out; have := HR1.out; have := HBL.out
    simp; omega
  have henc := rencode_any ⟨1 + x0, x1, b⟩ (.slice a5 n5 c5) h9.p1 HB2.out hGI1 hGI2 (by show b.length ≤ _; have := HBL.out; omega)
  have hWl := encP_length ⟨1 + x0, x1, b⟩ hGI1 hGI2 (by show b.length ≤ _; have := HBL.out; omega)
  have hWp : 1 ≤ (encP ⟨1 + x0, x1, b⟩).1.length := by rw [encP, if_pos hGv]; exact wholeP_pos _
  obtain ⟨Wl, hWd⟩ : ∃ Wl, Wl = (encP ⟨1 + x0, x1, b⟩).1 := ⟨_, rfl⟩
  obtain ⟨er2, her2⟩ : ∃ er2, er2 = (encP ⟨1 + x0, x1, b⟩).2 := ⟨_, rfl⟩
  rw [← hWd, ← her2] at henc
  rw [← hWd] at hWl hWp
  have hWl2 : Wl.length ≤ 90 := by have := HBL.out; have : Wl.length ≤ b.length + 50 := hWl; omega
  obtain ⟨n9, hn9⟩ : ∃ n9, n9 = Wl.length := ⟨_, rfl⟩
  rw [← hn9] at henc hWp hWl2
  obtain ⟨c0, c1, c2, -, -, -⟩ := pk3 h9
  have HENC := Lib.hid henc
  have HN9 := Lib.hid hn9
  have HWP := Lib.hid hWp
  have HWL := Lib.hid hWl2
  clear hG henc hWl hWp hWd her2 hWl2 hn9 hGI1 hGI2 hGv h9 hwr h0I h1I
  go_wp2_with fail
  refine HENC.out.mono ?_
  rintro e w10 ⟨a9, c9, rfl, hS11⟩
  obtain ⟨J3, hle3, hv9, hS12⟩ := hS11.learn
  have h12 : Sat w w10 (sep (kn J3) emp) := hS12.p1.drop
  have HV9 := Lib.hid hv9
  have HV6 := Lib.hid (rBytes.mono hle3 HV1'.out)
  have hn9z : (n9 : Int) ≠ 0 := by have := HWP.out; omega
  have b9 : ((n9 : Int) == 0) = false := by simp; have := HWP.out; omega
  have hfw := few_spec (.slice a9 n9 c9) Wl n9 h12 hv9 (by have := HWL.out; omega)
  have htk : Wl.take n9 = Wl := List.take_of_length_le (by rw [← HN9.out]; exact Nat.le_refl _)
  rw [htk, ← HN9.out] at hfw
  have HFW := Lib.hid hfw
  clear hS11 hS12 hle3 hv9 hfw htk c0 c1 c2 HENC hn9z h12
  go_wp2_with fail
  refine HFW.out.mono ?_
  rintro e w11 ⟨a10, c10, rfl, hS13⟩
  have hn9I : (n9 : Int) ≤ 90 := by have := HWL.out; omega
  go_wp2_with fail
  refine (around_spec a1 n9 _ HI3.out.1 HI3.out.2 (by have := HWP.out; omega) (by have := HWL.out; omega)).mono ?_
  rintro e w12 ⟨rfl, rfl⟩
  obtain ⟨e1, e2⟩ := aroundI_lt a1 (n9 : Int) (by have := HWP.out; omega)
  obtain ⟨j, hj⟩ : ∃ j : Nat, aroundI a1 n9 = j := ⟨(aroundI a1 n9).toNat, by omega⟩
  rw [hj] at e1 e2 ⊢
  have hjW : j < (Wl.map bv).length := by rw [List.length_map, ← HN9.out]; omega
  have hjn : (j : Int) < (n9 : Int) := e2
  obtain ⟨cy, hcy⟩ : ∃ cy : UInt8, cy = UInt8.ofNat a2.toNat := ⟨_, rfl⟩
  have hcv : ((cy.toNat : Nat) : Int) = a2 := by rw [hcy, UInt8.toNat_ofNat']; have := HI4.out; rw [Nat.mod_eq_of_lt (by omega)]; omega
  obtain ⟨g, hg, hgc, hgf, hset⟩ := hS13.osl_set j hjW (.int .u8 a2)
  subst hg
  rw [List.getElem_map] at hgc
  obtain ⟨T, hT⟩ : ∃ T, T = Wl.set j cy := ⟨_, rfl⟩
  have hset2 : (Wl.map bv).set j (.int .u8 a2) = T.map bv := by rw [hT, List.map_set, bv, hcv]
  rw [hset2] at hset
  have hTl : T.length = n9 := by rw [hT, List.length_set, ← HN9.out]
  have hT9 : Sat w (w11.setCell ⟨g, j, none⟩ (.int .u8 a2)) (sep (rBytes.is [.slice (some ⟨g, 0, none⟩) n9 c10] T) (sep (kn J3) emp)) := (hset.bytes_of_osl (bs := T)).2
  obtain ⟨J4, hle4, hv10, hS14⟩ := hT9.learn
  obtain ⟨w13, hw13⟩ : ∃ w13, w13 = w11.setCell ⟨g, j, none⟩ (.int .u8 a2) := ⟨_, rfl⟩
  rw [← hw13] at hS14
  have HW13 := Lib.hid hw13
  have HV10 := Lib.hid hv10
  have HV9' := Lib.hid (rBytes.mono hle4 HV9.out)
  have HV6' := Lib.hid (rBytes.mono hle4 HV6.out)
  have HTL := Lib.hid hTl
  have hcell : w11.cell? ⟨g, j, none⟩ = some (bv (Wl[j]'(by rw [List.length_map] at hjW; exact hjW))) := hgc
  unfold bv at hcell
  clear hS13 hj e1 e2 hcy hcv hset hset2 hT hTl hT9 hle4 hv10 hw13 HFW HV9 HV6 hgc hn9I b9
  go_upto_region 12 with (fail)
  rw [← HW13.out]
  clear hcell hgf hjW hjn
  have hbel := hS14.below
  have hsrc13 : ∀ b, a3 = some b → ∀ j u, (raw.map bv)[j]? = some u → w13.cell? (b.add j) = some u := fun b hb j u hu => by
    have h1 := HRAW.out b hb j u hu
    exact (hbel.cell (p := b.add j) (World.block_lt_of_cell? w _ h1)).trans h1
  have hfr := few_any a3 cap3 raw 40 hS14 HSW3.out hsrc13 (by omega)
  obtain ⟨F, hF⟩ : ∃ F, F = raw.take 40 := ⟨_, rfl⟩
  have hFl : F.length ≤ 40 := by rw [hF, List.length_take]; omega
  rw [← hF] at hfr
  obtain ⟨n11, hn11⟩ : ∃ n11, n11 = F.length := ⟨_, rfl⟩
  rw [← hn11] at hfr
  have HFR := Lib.hid hfr
  have HFL := Lib.hid hFl
  have HN11 := Lib.hid hn11
  clear hbel hsrc13 hfr hF hFl hn11 hS14
  go_wp2_with fail
  refine HFR.out.mono ?_
  rintro e w14 ⟨a11, c11, rfl, hS15⟩
  obtain ⟨J5, hle5, hv11, hS16⟩ := (hS15.bytes_of_osl (bs := F)).2.learn
  have hwh := rwhole_spec (.slice a11 n11 c11) F hS16 hv11 (by have := HFL.out; omega)
  have hXl := wholeP_length F (by have := HFL.out; omega)
  obtain ⟨X5, hX5⟩ : ∃ X5, X5 = wholeP F := ⟨_, rfl⟩
  rw [← hX5] at hwh hXl
  obtain ⟨n12, hn12⟩ : ∃ n12, n12 = X5.length := ⟨_, rfl⟩
  rw [← hn12] at hwh
  have HWH := Lib.hid hwh
  have HXL := Lib.hid hXl
  have HN12 := Lib.hid hn12
  have HV11 := Lib.hid hv11
  have HV10a := Lib.hid (rBytes.mono hle5 HV10.out)
  have HV9a := Lib.hid (rBytes.mono hle5 HV9'.out)
  have HV6a := Lib.hid (rBytes.mono hle5 HV6'.out)
  clear hS15 hle5 hv11 hS16 hwh hX5 hXl hn12 HFR HV10 HV9' HV6'
  go_wp2_with fail
  refine HWH.out.mono ?_
  rintro e w15 ⟨a12, c12, rfl, hS17⟩
  obtain ⟨J6, hle6, hv12, hS18⟩ := (hS17.bytes_of_osl (bs := X5)).2.learn
  have hA := hS18.alloc (.cells #[.slice a9 n9 c9, .slice a6 n6 c6, .slice (some ⟨g, 0, none⟩) n9 c10, .slice a11 n11 c11, .slice a12 n12 c12] 31)
  obtain ⟨q18, hq18⟩ : ∃ q18, q18 = w15.heap.size := ⟨_, rfl⟩
  obtain ⟨w16, hw16⟩ : ∃ w16, w16 = w15.alloc (.cells #[.slice a9 n9 c9, .slice a6 n6 c6, .slice (some ⟨g, 0, none⟩) n9 c10, .slice a11 n11 c11, .slice a12 n12 c12] 31) := ⟨_, rfl⟩
  rw [← hq18, ← hw16] at hA
  obtain ⟨K, hle7, hKq, hS19⟩ := hA.settle.learn
  have hrow : ∀ i, i < 5 → ∃ v l, (#[Value.slice a9 n9 c9, .slice a6 n6 c6, .slice (some ⟨g, 0, none⟩) n9 c10, .slice a11 n11 c11, .slice a12 n12 c12] : Array Value)[i]? = some v ∧ rBytes.rel K [v] l ∧ l.length ≤ 1000200 := by
    have m6 : ∀ {v l}, rBytes.rel J5 [v] l → rBytes.rel K [v] l := fun h => rBytes.mono (Mem.le_trans hle6 hle7) h
    have m7 : ∀ {v l}, rBytes.rel J6 [v] l → rBytes.rel K [v] l := fun h => rBytes.mono hle7 h
    intro i hi
    rcases (by omega : i = 0 ∨ i = 1 ∨ i = 2 ∨ i = 3 ∨ i = 4) with rfl | rfl | rfl | rfl | rfl
    · exact ⟨_, Wl, rfl, m6 HV9a.out, by rw [← HN9.out]; have := HWL.out; omega⟩
    · exact ⟨_, X1, rfl, m6 HV6a.out, by have := HX1L.out; omega⟩
    · exact ⟨_, T, rfl, m6 HV10a.out, by rw [HTL.out]; have := HWL.out; omega⟩
    · exact ⟨_, F, rfl, m6 HV11.out, by have := HFL.out; omega⟩
    · exact ⟨_, X5, rfl, m7 hv12, by have := HXL.out; have := HFL.out; omega⟩
  have HROW := Lib.hid hrow
  have HKQ := Lib.hid hKq
  have HW16 := Lib.hid hw16
  have HQ18 := Lib.hid hq18
  clear hS17 hle6 hv12 hS18 hA hq18 hw16 hle7 hKq hrow HWH
  go_upto_region 14 with (fail)
  rw [← HQ18.out, ← HW16.out]
  go_wp2_with fail
  go_loopw [19] (fun iv wr => ∃ i : Nat, i ≤ 5 ∧ iv = .int .i64 i ∧ Sat w wr (sep (kn K) emp)) (fun iv _ => 5 - (intOf iv).toNat)
  case atStart => exact ⟨0, by omega, rfl, hS19⟩
  case round =>
    clear hS19
    obtain ⟨i, hi, rfl, hS⟩ := hrel
    by_cases hi5 : i < 5
    · have hlt : (i : Int) < 5 := by omega
      obtain ⟨v, lx, hvi, hvr, hvl⟩ := HROW.out i hi5
      obtain ⟨av, cv, rfl, -, -⟩ := bytes_rel.1 hvr
      obtain ⟨nv, hnv⟩ : ∃ nv, nv = lx.length := ⟨_, rfl⟩
      rw [← hnv] at hvr hvi
      have hce := ext_cell (i := i) HKQ.out hS.ext
      rw [hvi] at hce
      have HVI := Lib.hid hvi
      have HVR := Lib.hid hvr
      have HVL := Lib.hid hvl
      have HI5 := Lib.hid hi
      have hdec := Lib.hid (decode_spec _ lx hS hvr hvl)
      obtain ⟨P, hP⟩ : ∃ P, P = decP lx := ⟨_, rfl⟩
      rw [← hP] at hdec
      have HP := Lib.hid hP
      clear hvi hvr hvl hnv hi hP hS
      go_wp2_with fail
      refine hdec.out.mono ?_
      rintro e w17 ⟨vb, rfl, hS1⟩
      obtain ⟨vbx, vbc, hvb, -, -⟩ := hS1.bytes_open
      obtain ⟨vbn, hvbn⟩ : ∃ vbn, vbn = P.1.b.length := ⟨_, rfl⟩
      rw [← hvbn] at hvb
      subst hvb
      obtain ⟨K2, hle8, hvb2, hS2⟩ := hS1.learn
      have hA := hS2.alloc (.cells #[.int .i64 P.1.seq, .int .i64 P.1.ack, .slice vbx vbn vbc] 44)
      obtain ⟨q20, hq20⟩ : ∃ q20, q20 = w17.heap.size := ⟨_, rfl⟩
      obtain ⟨w18, hw18⟩ : ∃ w18, w18 = w17.alloc (.cells #[.int .i64 P.1.seq, .int .i64 P.1.ack, .slice vbx vbn vbc] 44) := ⟨_, rfl⟩
      rw [← hq20, ← hw18] at hA
      obtain ⟨K3, hle9, hK20, hS3⟩ := hA.settle.learn
      have HQ20 := Lib.hid hq20
      have HW18 := Lib.hid hw18
      have HK20 := Lib.hid hK20
      have HLE := Lib.hid hle8
      have HVB2 := Lib.hid (rBytes.mono hle9 hvb2)
      have HVR3 := Lib.hid (rBytes.mono (Mem.le_trans hle8 hle9) HVR.out)
      have HKQ3 := Lib.hid ((Mem.le_trans hle8 hle9) _ _ HKQ.out)
      have HLE3 := Lib.hid (Mem.le_trans hle8 hle9)
      clear hS1 hS2 hA hq20 hw18 hK20 hle8 hvb2 hle9 hce hvbn hdec
      go_upto_region 18 with (fail)
      rw [← HQ20.out, ← HW18.out]
      have hce := ext_cell (i := i) HKQ3.out hS3.ext
      rw [HVI.out] at hce
      have hdec := rdecode_spec _ lx hS3 HVR3.out HVL.out
      rw [← HP.out] at hdec
      have HDEC := Lib.hid hdec
      clear hdec hS3
      go_wp2_with fail
      refine HDEC.out.mono ?_
      rintro e w19 ⟨vc, rfl, hS4⟩
      obtain ⟨vcx, vcc, hvc, -, -⟩ := hS4.bytes_open
      obtain ⟨vcn, hvcn⟩ : ∃ vcn, vcn = P.1.b.length := ⟨_, rfl⟩
      rw [← hvcn] at hvc
      subst hvc
      obtain ⟨K4, hle10, hvc4, hS5⟩ := hS4.learn
      have hA := hS5.alloc (.cells #[.int .i64 P.1.seq, .int .i64 P.1.ack, .slice vcx vcn vcc] 40)
      obtain ⟨q22, hq22⟩ : ∃ q22, q22 = w19.heap.size := ⟨_, rfl⟩
      obtain ⟨w20, hw20⟩ : ∃ w20, w20 = w19.alloc (.cells #[.int .i64 P.1.seq, .int .i64 P.1.ack, .slice vcx vcn vcc] 40) := ⟨_, rfl⟩
      rw [← hq22, ← hw20] at hA
      obtain ⟨K5, hle11, hK22, hS6⟩ := hA.settle.learn
      have HQ22 := Lib.hid hq22
      have HW20 := Lib.hid hw20
      have HK22 := Lib.hid hK22
      have HVC5 := Lib.hid (rBytes.mono hle11 hvc4)
      have HVB5 := Lib.hid (rBytes.mono (Mem.le_trans hle10 hle11) HVB2.out)
      have HK20' := Lib.hid ((Mem.le_trans hle10 hle11) _ _ HK20.out)
      have HLE5 := Lib.hid (Mem.le_trans HLE3.out (Mem.le_trans hle10 hle11))
      clear hS4 hS5 hA hq22 hw20 hK22 hle10 hvc4 hle11 hce hvcn HDEC
      go_upto_region 19 with (fail)
      rw [← HQ22.out, ← HW20.out]
      have be : ((P.2 : Int) != P.2) = false := by simp
      have hx := hS6.drew.ext
      have p0 : w20.drew.cell? ⟨q20, 0, none⟩ = some (.int .i64 P.1.seq) := ext_cell HK20'.out hx
      have p1 : w20.drew.cell? ⟨q20, 1, none⟩ = some (.int .i64 P.1.ack) := ext_cell HK20'.out hx
      have p2 : w20.drew.cell? ⟨q20, 2, none⟩ = some (.slice vbx vbn vbc) := ext_cell HK20'.out hx
      have hS0 : w20.drew.cell? ⟨q22, 0, none⟩ = some (.int .i64 P.1.seq) ∧ w20.drew.cell? ⟨q22, 1, none⟩ = some (.int .i64 P.1.ack) ∧ w20.drew.cell? ⟨q22, 2, none⟩ = some (.slice vcx vcn vcc) := ⟨ext_cell HK22.out hx, ext_cell HK22.out hx, ext_cell HK22.out hx⟩
      have hS7 := hS6.drew
      clear hx hS6
      refine wp_region_canon rfl (fun w' => w'.cell? ⟨q22, 0, none⟩ = some (.int .i64 P.1.seq) ∧ w'.cell? ⟨q22, 1, none⟩ = some (.int .i64 P.1.ack) ∧ w'.cell? ⟨q22, 2, none⟩ = some (.slice vcx vcn vcc)) [(0, .p), (1, .p), (2, .p), (3, .p), (4, .t), (6, .s), (5, .e true), (7, .e false), (8, .p), (9, .p)] (by kernel_rfl) ?_
      (repeat (first | (refine C_p (v := ?_) rfl rfl (fun w' => ?_) ?_; rotate_left; (go_simp; with_reducible rfl); simp only [Act.put, List.setIfInBounds_toArray, List.set_cons_zero, List.set_cons_succ]) | (refine C_s (v := ?_) rfl rfl hS0 (fun w' hS => ?_) ?_; rotate_left; ((try dsimp only at hS); go_simp; with_reducible rfl); simp only [Act.put, List.setIfInBounds_toArray, List.set_cons_zero, List.set_cons_succ]) | (refine C_t (v := ?_) rfl rfl ?_ ?_; rotate_left; (go_simp; with_reducible rfl); simp only [Act.put, List.setIfInBounds_toArray, List.set_cons_zero, List.set_cons_succ]) | (refine C_po rfl rfl ?_; simp only [Act.put, List.setIfInBounds_toArray, List.set_cons_zero, List.set_cons_succ]) | (refine C_so rfl rfl hS0 ?_; simp only [Act.put, List.setIfInBounds_toArray, List.set_cons_zero, List.set_cons_succ]) | (refine C_to rfl rfl ?_; simp only [Act.put, List.setIfInBounds_toArray, List.set_cons_zero, List.set_cons_succ])))
      (refine C_e rfl rfl (fun K hK => ?_); go_simp)
      refine (plain_spec _ _ _ _ _ hS7).mono ?_
      rintro e w21 ⟨rfl, -, hS8⟩
      clear hS0
      have hx := hS8.ext
      have hS0 : w21.cell? ⟨q22, 0, none⟩ = some (.int .i64 P.1.seq) ∧ w21.cell? ⟨q22, 1, none⟩ = some (.int .i64 P.1.ack) ∧ w21.cell? ⟨q22, 2, none⟩ = some (.slice vcx vcn vcc) := ⟨ext_cell HK22.out hx, ext_cell HK22.out hx, ext_cell HK22.out hx⟩
      clear hx hS7 p0 p1 p2
      (refine hK _ _ (fun _ => hS0) ?_; clear hK K; (try simp only [Act.put, List.setIfInBounds_toArray, List.set_cons_zero, List.set_cons_succ]))
      (repeat (first | (refine C_p (v := ?_) rfl rfl (fun w' => ?_) ?_; rotate_left; (go_simp; with_reducible rfl); simp only [Act.put, List.setIfInBounds_toArray, List.set_cons_zero, List.set_cons_succ]) | (refine C_s (v := ?_) rfl rfl hS0 (fun w' hS => ?_) ?_; rotate_left; ((try dsimp only at hS); go_simp; with_reducible rfl); simp only [Act.put, List.setIfInBounds_toArray, List.set_cons_zero, List.set_cons_succ]) | (refine C_t (v := ?_) rfl rfl ?_ ?_; rotate_left; (go_simp; with_reducible rfl); simp only [Act.put, List.setIfInBounds_toArray, List.set_cons_zero, List.set_cons_succ]) | (refine C_po rfl rfl ?_; simp only [Act.put, List.setIfInBounds_toArray, List.set_cons_zero, List.set_cons_succ]) | (refine C_so rfl rfl hS0 ?_; simp only [Act.put, List.setIfInBounds_toArray, List.set_cons_zero, List.set_cons_succ]) | (refine C_to rfl rfl ?_; simp only [Act.put, List.setIfInBounds_toArray, List.set_cons_zero, List.set_cons_succ])))
      (refine C_e rfl rfl (fun K hK => ?_); go_simp)
      refine (rsame_spec _ _ _ _ P.1.b ((hS8.tell HVC5.out).tell2 HVB5.out)).mono ?_
      rintro e w22 ⟨rfl, hS9⟩
      have hS10 := hS9.drop.drop.kn_mono HLE5.out
      (refine hK _ _ (fun h => by cases h) ?_; clear hK K; (try simp only [Act.put, List.setIfInBounds_toArray, List.set_cons_zero, List.set_cons_succ]))
      (repeat (first | (refine C_p (v := ?_) rfl rfl (fun w' => ?_) ?_; rotate_left; (go_simp; with_reducible rfl); simp only [Act.put, List.setIfInBounds_toArray, List.set_cons_zero, List.set_cons_succ]) | (refine C_s (v := ?_) rfl rfl hS0 (fun w' hS => ?_) ?_; rotate_left; ((try dsimp only at hS); go_simp; with_reducible rfl); simp only [Act.put, List.setIfInBounds_toArray, List.set_cons_zero, List.set_cons_succ]) | (refine C_t (v := ?_) rfl rfl ?_ ?_; rotate_left; (go_simp; with_reducible rfl); simp only [Act.put, List.setIfInBounds_toArray, List.set_cons_zero, List.set_cons_succ]) | (refine C_po rfl rfl ?_; simp only [Act.put, List.setIfInBounds_toArray, List.set_cons_zero, List.set_cons_succ]) | (refine C_so rfl rfl hS0 ?_; simp only [Act.put, List.setIfInBounds_toArray, List.set_cons_zero, List.set_cons_succ]) | (refine C_to rfl rfl ?_; simp only [Act.put, List.setIfInBounds_toArray, List.set_cons_zero, List.set_cons_succ])))
      refine C_nil ?_
      clear hS0 hS8 hS9
      go_wp2_with fail
      go_roundw
      case rel => exact ⟨i + 1, by omega, by go_num, hS10⟩
      case measure => simp [intOf]; omega
    · have hlt : ¬ (i : Int) < 5 := by omega
      clear hi hi5
      go_wp2_with fail
      refine (lives36_spec hS).mono ?_
      rintro e w17 ⟨rfl, hS1⟩
      go_wp2_with fail
      go_ret
      exact ⟨rfl, hS1.below⟩
end Go.Proofs.Ytnmkdidhilekiaa
