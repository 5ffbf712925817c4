/- Package seal: Open. -/
import Derived.Test.YtcnonbhhlbplpaaS3
namespace Go.Proofs.Ytcnonbhhlbplpaa
open Go.RowKit PA
set_option maxRecDepth 100000 in
set_option maxHeartbeats 2000000 in
theorem sopen_no {W w : World} {A : Assn} (p : Nat) (M : Int → Option Ent) (n : Nat) (k : Int) (h : Sat W w (sep (isBox p M n) A)) (hm : M k = none) :
    Calls Try.prog 16 #[.pointer (some ⟨p, 0, none⟩), .int .i64 k] w fun e w' => e = .returned (.tuple #[.slice none 0 0, .int .u64 0, .int .i64 7]) ∧ Sat W w' (sep (isBox p M n) A) := by
  obtain ⟨hn, b, f, h0⟩ := isBox_open h
  have c0 : w.cell? ⟨p, 0, none⟩ = some (.map (some b)) := h0.cell 0
  have hlk := run_lookup_bmap (P := Try.prog) (T := 61) Try.underlying61 Try.underlying3 zeroEntry h0.p1 k true
  have hfk : f k = none := h0.p2.pers_heap.1 k hm
  rw [hfk] at hlk
  have hlk2 : (Instr.lookup 61 (.map (some b)) (.int .i64 k) true).run Try.prog w = .ok (.tuple #[.agg #[.slice none 0 0, .int .u64 0, .bool false], .bool false]) w := hlk
  have h2 := h.alloc0 (.cells #[.slice none 0 0, .int .u64 0, .bool false] 65)
  have HR := Lib.hid h2
  clear h h0 hlk hfk h2
  go_enter Try.func16, Try.ntmps16
  go_wp2_with fail
  exact bodyPost_ret (results_tmp3 rfl _ _ _) rfl ⟨rfl, HR.out⟩
set_option maxRecDepth 100000 in
set_option maxHeartbeats 4000000 in
theorem sopen_ok {W w : World} {A : Assn} (p : Nat) (M : Int → Option Ent) (n : Nat) (k : Int) (en : Ent) (h : Sat W w (sep (isBox p M n) A)) (hm : M k = some en) :
    Calls Try.prog 16 #[.pointer (some ⟨p, 0, none⟩), .int .i64 k] w fun e w' => ∃ a c, e = .returned (.tuple #[.slice a en.b.length c, .int .u64 (en.s : Nat), .int .i64 0]) ∧
      Sat W w' (sep (osl 5 1 a en.b.length c (en.b.map bv)) (sep (isBox p (eset M k { en with o := true }) n) A)) := by
  obtain ⟨hn, b, f, h0⟩ := isBox_open h
  have c0 : w.cell? ⟨p, 0, none⟩ = some (.map (some b)) := h0.cell 0
  have hlk := run_lookup_bmap (P := Try.prog) (T := 61) Try.underlying61 Try.underlying3 zeroEntry h0.p1 k true
  obtain ⟨hbl, a0, c0', hfk, hrel⟩ := h0.p2.pers_heap.2 k en hm
  rw [hfk] at hlk
  obtain ⟨bs, hbs⟩ : ∃ bs, bs = en.b := ⟨_, rfl⟩
  obtain ⟨s, hs⟩ : ∃ s, s = en.s := ⟨_, rfl⟩
  obtain ⟨o, ho⟩ : ∃ o, o = en.o := ⟨_, rfl⟩
  rw [← hbs, ← hs, ← ho] at hlk
  obtain ⟨l, hl⟩ : ∃ l, l = bs.length := ⟨_, rfl⟩
  rw [← hl] at hlk
  have hlk2 : (Instr.lookup 61 (.map (some b)) (.int .i64 k) true).run Try.prog w = .ok (.tuple #[.agg #[.slice a0 l c0', .int .u64 (s : Nat), .bool o], .bool true]) w := hlk
  have h2 := h0.alloc (.cells #[.slice a0 l c0', .int .u64 (s : Nat), .bool true] 65)
  obtain ⟨q, hq⟩ : ∃ q, q = w.heap.size := ⟨_, rfl⟩
  have h3 := h2.drew
  obtain ⟨w3, hw3⟩ : ∃ w3, w3 = w.alloc (.cells #[.slice a0 l c0', .int .u64 (s : Nat), .bool true] 65) := ⟨_, rfl⟩
  rw [← hw3] at h3
  rw [← hq] at h3
  have q0 : w3.drew.cell? ⟨q, 0, none⟩ = some (.slice a0 l c0') := h3.cell 0
  have q1 : w3.drew.cell? ⟨q, 1, none⟩ = some (.int .u64 (s : Nat)) := h3.cell 1
  have q2 : w3.drew.cell? ⟨q, 2, none⟩ = some (.bool true) := h3.cell 2
  have p0 : w3.drew.cell? ⟨p, 0, none⟩ = some (.map (some b)) := h3.p1.cell 0
  obtain ⟨w6, n6, hup, hn6, h8⟩ := run_update_bmap (P := Try.prog) (T := 61) Try.underlying61 Try.underlying3 (h3.p2) k (.agg #[.slice a0 l c0', .int .u64 (s : Nat), .bool true])
  rw [hfk] at hn6
  have hn7 : n6 = n := hn6
  subst hn7
  have hen : ({ en with o := true } : Ent) = ⟨bs, s, true⟩ := by rw [hbs, hs]
  rw [hen]
  have hbl2 : bs.length ≤ 65536 := by rw [hbs]; exact hbl
  have hmm : M k = some ⟨bs, s, o⟩ := by rw [hm, hbs, hs, ho]
  have hbox : ∀ (w7 : World) (R : Assn), Sat W w7 (sep (blk p (.cells #[.map (some b)] 63 (0, 0))) (sep (bmap b (fset f k (some (entV a0 l c0' s true))) n6) (sep (sokA f M) R))) → Sat W w7 (sep (isBox p (eset M k ⟨bs, s, true⟩) n6) R) := by
    intro w7 R h9
    refine isBox_mk (b := b) (f := fset f k (some (entV a0 l c0' s true))) (n := n6) hn ?_
    have hput : ∀ J, SOK J f M → SOK J (fset f k (some (entV a0 l c0' s true))) (eset M k ⟨bs, s, true⟩) := fun J hJ => by
      obtain ⟨_, a', c', e', hr'⟩ := hJ.2 k _ hmm
      rw [hfk] at e'
      have e2 : entV a0 en.b.length c0' en.s en.o = entV a' bs.length c' s o := Option.some.inj e'
      simp only [entV, Value.agg.injEq, Array.mk.injEq, List.cons.injEq, Value.slice.injEq] at e2
      obtain ⟨⟨rfl, -, rfl⟩, -⟩ := e2
      have := hJ.put k ⟨bs, s, true⟩ (a := a0) (c := c0') hbl2 hr'
      rw [hl]; exact this
    have h10 : Sat W w7 (sep (sokA (fset f k (some (entV a0 l c0' s true))) (eset M k ⟨bs, s, true⟩)) (sep (blk p (.cells #[.map (some b)] 63 (0, 0))) (sep (bmap b (fset f k (some (entV a0 l c0' s true))) n6) R))) := by
      refine (show Sat W w7 (sep (sokA f M) (sep (blk p (.cells #[.map (some b)] 63 (0, 0))) (sep (bmap b (fset f k (some (entV a0 l c0' s true))) n6) R))) by simpa only [sep_comm, sep_lcomm, sep_assoc] using h9).wk ?_
      rintro J m ⟨x, y, h1, rfl, ⟨rfl, h2⟩, h4⟩
      exact ⟨Mem.no, _, h1, rfl, ⟨rfl, hput J h2⟩, h4⟩
    simpa only [sep_comm, sep_lcomm, sep_assoc] using h10
  have r0 : w6.drew.cell? ⟨q, 0, none⟩ = some (.slice a0 l c0') := h8.p1.cell 0
  have hS1 : w6.drew.cell? ⟨q, 1, none⟩ = some (.int .u64 (s : Nat)) := h8.p1.cell 1
  obtain ⟨hsrc, hsw⟩ : (∀ b, a0 = some b → ∀ j u, (bs.map bv)[j]? = some u → w6.drew.cell? (b.add j) = some u) ∧ Swf a0 l c0' := by
    obtain ⟨_, a', c', e', hr'⟩ := h8.drew.p3.pers_heap.2 k _ hmm
    rw [hfk] at e'
    have e2 : entV a0 en.b.length c0' en.s en.o = entV a' bs.length c' s o := Option.some.inj e'
    simp only [entV, Value.agg.injEq, Array.mk.injEq, List.cons.injEq, Value.slice.injEq] at e2
    obtain ⟨⟨rfl, -, rfl⟩, -⟩ := e2
    obtain ⟨a'', c'', e, hw, hc⟩ := bytes_rel.1 hr'
    simp only [Value.slice.injEq] at e
    obtain ⟨rfl, -, rfl⟩ := e
    exact ⟨src_ext hc fun _ _ h => h, by rw [hl]; exact hw⟩
  have hcl := clone_any a0 l c0' (bs.map bv) h8.drew hsrc (by rw [List.length_map]; exact hl.symm) hsw (bv_one bs) (by omega)
  have HCL := Lib.hid hcl
  have HBOX := Lib.hid hbox
  have HW3 := Lib.hid hw3
  have HQ := Lib.hid hq
  have HS := Lib.hid hs
  have hs2 : en.s = s := hs.symm
  have hl2 : en.b.length = l := by rw [hl, hbs]
  rw [hs2, hl2, ← hbs]
  have hS0 : True := trivial
  clear h h0 h2 h3 h8 hlk hfk hrel hbl hbs hs ho hl hm hmm hcl hbox hw3 hsrc hsw hq hs2 hl2 hen hbl2
  go_enter Try.func16, Try.ntmps16
  go_upto_region 5 with (fail)
  rw [← HW3.out, ← HQ.out]
  refine wp_region_canon rfl (fun _ => True) [(0, .p), (1, .p), (2, .p), (3, .t), (4, .p), (5, .t), (6, .e false)] (by kernel_rfl) ?_
  (repeat (first | (refine C_p (v := ?_) rfl rfl (fun w' => ?_) ?_; rotate_left; (go_simp; with_reducible rfl); simp only [Act.put, List.setIfInBounds_toArray, List.set_cons_zero, List.set_cons_succ]) | (refine C_s (v := ?_) rfl rfl hS0 (fun w' hS => ?_) ?_; rotate_left; ((try dsimp only at hS); go_simp; with_reducible rfl); simp only [Act.put, List.setIfInBounds_toArray, List.set_cons_zero, List.set_cons_succ]) | (refine C_t (v := ?_) rfl rfl ?_ ?_; rotate_left; (go_simp; with_reducible rfl); simp only [Act.put, List.setIfInBounds_toArray, List.set_cons_zero, List.set_cons_succ]) | (refine C_po rfl rfl ?_; simp only [Act.put, List.setIfInBounds_toArray, List.set_cons_zero, List.set_cons_succ]) | (refine C_so rfl rfl hS0 ?_; simp only [Act.put, List.setIfInBounds_toArray, List.set_cons_zero, List.set_cons_succ]) | (refine C_to rfl rfl ?_; simp only [Act.put, List.setIfInBounds_toArray, List.set_cons_zero, List.set_cons_succ])))
  (refine C_e rfl rfl (fun K hK => ?_); go_simp)
  (refine hK _ _ (fun h => by cases h) ?_; clear hK K; (try simp only [Act.put, List.setIfInBounds_toArray, List.set_cons_zero, List.set_cons_succ]))
  (repeat (first | (refine C_p (v := ?_) rfl rfl (fun w' => ?_) ?_; rotate_left; (go_simp; with_reducible rfl); simp only [Act.put, List.setIfInBounds_toArray, List.set_cons_zero, List.set_cons_succ]) | (refine C_s (v := ?_) rfl rfl hS0 (fun w' hS => ?_) ?_; rotate_left; ((try dsimp only at hS); go_simp; with_reducible rfl); simp only [Act.put, List.setIfInBounds_toArray, List.set_cons_zero, List.set_cons_succ]) | (refine C_t (v := ?_) rfl rfl ?_ ?_; rotate_left; (go_simp; with_reducible rfl); simp only [Act.put, List.setIfInBounds_toArray, List.set_cons_zero, List.set_cons_succ]) | (refine C_po rfl rfl ?_; simp only [Act.put, List.setIfInBounds_toArray, List.set_cons_zero, List.set_cons_succ]) | (refine C_so rfl rfl hS0 ?_; simp only [Act.put, List.setIfInBounds_toArray, List.set_cons_zero, List.set_cons_succ]) | (refine C_to rfl rfl ?_; simp only [Act.put, List.setIfInBounds_toArray, List.set_cons_zero, List.set_cons_succ])))
  refine C_nil ?_
  clear q0 q1 q2 p0 hup hS0 hlk2 c0
  have hS0 := hS1
  go_upto_region 6 with (fail)
  refine wp_region_canon rfl (fun w' => w'.cell? ⟨q, 1, none⟩ = some (.int .u64 (s : Nat))) [(0, .p), (1, .t), (3, .p), (4, .s), (2, .e true), (5, .p), (6, .p), (7, .p)] (by kernel_rfl) ?_
  (repeat (first | (refine C_p (v := ?_) rfl rfl (fun w' => ?_) ?_; rotate_left; (go_simp; with_reducible rfl); simp only [Act.put, List.setIfInBounds_toArray, List.set_cons_zero, List.set_cons_succ]) | (refine C_s (v := ?_) rfl rfl hS0 (fun w' hS => ?_) ?_; rotate_left; ((try dsimp only at hS); go_simp; with_reducible rfl); simp only [Act.put, List.setIfInBounds_toArray, List.set_cons_zero, List.set_cons_succ]) | (refine C_t (v := ?_) rfl rfl ?_ ?_; rotate_left; (go_simp; with_reducible rfl); simp only [Act.put, List.setIfInBounds_toArray, List.set_cons_zero, List.set_cons_succ]) | (refine C_po rfl rfl ?_; simp only [Act.put, List.setIfInBounds_toArray, List.set_cons_zero, List.set_cons_succ]) | (refine C_so rfl rfl hS0 ?_; simp only [Act.put, List.setIfInBounds_toArray, List.set_cons_zero, List.set_cons_succ]) | (refine C_to rfl rfl ?_; simp only [Act.put, List.setIfInBounds_toArray, List.set_cons_zero, List.set_cons_succ])))
  (refine C_e rfl rfl (fun K hK => ?_); go_simp)
  refine HCL.out.mono ?_
  rintro e w7 ⟨a4, c4, rfl, h9⟩
  have hS2 : w7.cell? ⟨q, 1, none⟩ = some (.int .u64 (s : Nat)) := h9.p2.cell 1
  have HF := Lib.hid (HBOX.out w7 (sep (osl 5 1 a4 l c4 (bs.map bv)) A) (by
    have := h9.p2.drop
    simpa only [sep_comm, sep_lcomm, sep_assoc, entV] using this))
  clear h9 r0 hS0 hS1
  (refine hK _ _ (fun _ => hS2) ?_; clear hK K; (try simp only [Act.put, List.setIfInBounds_toArray, List.set_cons_zero, List.set_cons_succ]))
  (repeat (first | (refine C_p (v := ?_) rfl rfl (fun w' => ?_) ?_; rotate_left; (go_simp; with_reducible rfl); simp only [Act.put, List.setIfInBounds_toArray, List.set_cons_zero, List.set_cons_succ]) | (refine C_s (v := ?_) rfl rfl hS0 (fun w' hS => ?_) ?_; rotate_left; ((try dsimp only at hS); go_simp; with_reducible rfl); simp only [Act.put, List.setIfInBounds_toArray, List.set_cons_zero, List.set_cons_succ]) | (refine C_t (v := ?_) rfl rfl ?_ ?_; rotate_left; (go_simp; with_reducible rfl); simp only [Act.put, List.setIfInBounds_toArray, List.set_cons_zero, List.set_cons_succ]) | (refine C_po rfl rfl ?_; simp only [Act.put, List.setIfInBounds_toArray, List.set_cons_zero, List.set_cons_succ]) | (refine C_so rfl rfl hS0 ?_; simp only [Act.put, List.setIfInBounds_toArray, List.set_cons_zero, List.set_cons_succ]) | (refine C_to rfl rfl ?_; simp only [Act.put, List.setIfInBounds_toArray, List.set_cons_zero, List.set_cons_succ])))
  refine C_nil ?_
  go_wp2_with fail
  refine bodyPost_ret (results_tmp3 rfl _ _ _) rfl ⟨a4, c4, rfl, ?_⟩
  have := HF.out
  simpa only [sep_comm, sep_lcomm, sep_assoc] using this
end Go.Proofs.Ytcnonbhhlbplpaa
