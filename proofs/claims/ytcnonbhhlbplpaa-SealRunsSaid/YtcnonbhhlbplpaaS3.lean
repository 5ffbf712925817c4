/- Package seal: Put, Open. -/
import Derived.Test.YtcnonbhhlbplpaaS2
import Derived.Test.YtcnonbhhlbplpaaCl
namespace Go.Proofs.Ytcnonbhhlbplpaa
open Go.RowKit PA
theorem res2 {a b c d : Int} (h1 : a = c) (h2 : b = d) : Ending.returned (.tuple #[.int .u64 a, .int .i64 b]) = .returned (.tuple #[.int .u64 c, .int .i64 d]) := by rw [h1, h2]
theorem look_none {I : Mem} {f : Int → Option Value} {M : Int → Option Ent} (h : SOK I f M) (k : Int) (hk : M k = none) : f k = none := h.1 k hk
theorem look_val {I : Mem} {f : Int → Option Value} {M : Int → Option Ent} (h : SOK I f M) (k : Int) : ∃ a n c s o, (f k).getD (.agg #[.slice none 0 0, .int .u64 0, .bool false]) = .agg #[.slice a n c, .int .u64 ((s : Nat) : Int), .bool o] := by
  cases hm : M k with
  | none => rw [h.1 k hm]; exact ⟨none, 0, 0, 0, false, rfl⟩
  | some e => obtain ⟨_, a, c, e1, _⟩ := h.2 k e hm; rw [e1]; exact ⟨a, _, c, e.s, e.o, rfl⟩
set_option maxRecDepth 100000 in
set_option maxHeartbeats 2000000 in
theorem sput_no {W w : World} {A : Assn} {I : Mem} (p : Nat) (M : Int → Option Ent) (n : Nat) (k : Int) (v : Value) (x : List UInt8) (s : Nat) (h : Sat W w (sep (isBox p M n) (sep (kn I) A))) (hv : rBytes.rel I [v] x) (hno : putE M n k x ≠ 0) :
    Calls Try.prog 11 #[.pointer (some ⟨p, 0, none⟩), .int .i64 k, v, .int .u64 (s : Nat)] w fun e w' => e = .returned (.tuple #[.int .u64 0, .int .i64 (putE M n k x : Nat)]) ∧ Sat W w' (sep (isBox p M n) (sep (kn I) A)) := by
  obtain ⟨hn, b, f, h0⟩ := isBox_open h
  obtain ⟨va, vc, rfl, hw, -⟩ := bytes_rel.1 hv
  have c0 : w.cell? ⟨p, 0, none⟩ = some (.map (some b)) := h0.cell 0
  have hlk := run_lookup_bmap (P := Try.prog) (T := 61) Try.underlying61 Try.underlying3 zeroEntry h0.p1 k true
  have hsok := h0.p2.pers_heap
  have hss := hsok.isSome k
  obtain ⟨la, ln, lc, ls, lo, hval⟩ := look_val hsok k
  rw [hval, hss] at hlk
  have hlk2 : (Instr.lookup 61 (.map (some b)) (.int .i64 k) true).run Try.prog w = .ok (.tuple #[.agg #[.slice la ln lc, .int .u64 (ls : Nat), .bool lo], .bool (M k).isSome]) w := hlk
  have h1 := h0.alloc (.cells #[.slice la ln lc, .int .u64 (ls : Nat), .bool lo] 65)
  have c1 : (w.alloc (.cells #[.slice la ln lc, .int .u64 (ls : Nat), .bool lo] 65)).cell? ⟨p, 0, none⟩ = some (.map (some b)) := h1.p1.cell 0
  obtain ⟨es, clock, hm1, hm2, -, hm3⟩ := h1.p2.bmap_open
  have hlen := hm3.blk_heap
  have hln := run_len_map (P := Try.prog) _ 61 3 b es clock (by kernel_rfl) hlen
  rw [hm2] at hln
  have h2 : Sat W (w.alloc (.cells #[.slice la ln lc, .int .u64 (ls : Nat), .bool lo] 65)) (sep (isBox p M n) (sep (kn I) A)) := h.alloc0 _
  have HR := Lib.hid h2
  unfold putE at hno ⊢
  obtain ⟨xl, hxl⟩ : ∃ xl, xl = x.length := ⟨_, rfl⟩
  rw [← hxl] at hno hw ⊢
  have hx2 : (xl : Int) ≤ 9223372036854775807 := by have := hw.1; have := hw.2.1; unfold maxLen at this; omega
  obtain ⟨is, his⟩ : ∃ is, is = (M k).isSome := ⟨_, rfl⟩
  rw [← his] at hno hlk2 ⊢
  clear h h0 h1 hlk hsok hss hval hv hw hm1 hm3 hxl his h2
  by_cases g1 : k < 0
  · rw [if_pos (.inl g1)]
    clear hno
    go_enter Try.func11, Try.ntmps11
    go_wp2_with fail
    go_ret2
    exact ⟨rfl, HR.out⟩
  · by_cases g2 : 65535 < k
    · rw [if_pos (.inr g2)]
      clear hno
      go_enter Try.func11, Try.ntmps11
      go_wp2_with fail
      go_ret2
      exact ⟨rfl, HR.out⟩
    · rw [if_neg (by omega)] at hno ⊢
      by_cases g3 : 65536 < xl
      · rw [if_pos g3]
        have g3I : (65536 : Int) < (xl : Int) := by omega
        clear hno
        go_enter Try.func11, Try.ntmps11
        go_wp2_with fail
        go_ret2
        exact ⟨rfl, HR.out⟩
      · rw [if_neg g3] at hno ⊢
        have g3I : ¬ (65536 : Int) < (xl : Int) := by omega
        cases is with
        | true =>
          rw [if_pos rfl]
          clear hno
          go_enter Try.func11, Try.ntmps11
          go_wp2_with fail
          go_ret2
          exact ⟨rfl, HR.out⟩
        | false =>
          rw [if_neg (by simp)] at hno ⊢
          by_cases g4 : 4096 ≤ n
          · rw [if_pos g4]
            obtain rfl : n = 4096 := by omega
            clear hno
            go_enter Try.func11, Try.ntmps11
            go_wp2_with fail
            go_ret2
            exact ⟨rfl, HR.out⟩
          · rw [if_neg g4] at hno; exact absurd rfl hno
theorem sokA_put {W w : World} {A : Assn} {I : Mem} {f f' : Int → Option Value} {M M' : Int → Option Ent} (h : Sat W w (sep (sokA f M) (sep (kn I) A))) (hp : ∀ J, Mem.le I J → SOK J f M → SOK J f' M') : Sat W w (sep (sokA f' M') (sep (kn I) A)) := by
  refine h.wk ?_
  rintro J m ⟨x, y, h1, rfl, ⟨rfl, h2⟩, x', y', h3, rfl, ⟨rfl, hle⟩, h4⟩
  exact ⟨Mem.no, _, h1, rfl, ⟨rfl, hp J hle h2⟩, Mem.no, y', h3, rfl, ⟨rfl, hle⟩, h4⟩
set_option maxRecDepth 100000 in
set_option maxHeartbeats 4000000 in
theorem sput_ok {W w : World} {A : Assn} {I : Mem} (p : Nat) (M : Int → Option Ent) (n : Nat) (k : Int) (v : Value) (x : List UInt8) (s : Nat) (h : Sat W w (sep (isBox p M n) (sep (kn I) A))) (hv : rBytes.rel I [v] x) (hok : putE M n k x = 0) :
    Calls Try.prog 11 #[.pointer (some ⟨p, 0, none⟩), .int .i64 k, v, .int .u64 (s : Nat)] w fun e w' => e = .returned (.tuple #[.int .u64 (commitN x s : Nat), .int .i64 0]) ∧ Sat W w' (sep (isBox p (eset M k ⟨x, s, false⟩) (n + 1)) (sep (kn I) A)) := by
  obtain ⟨hn, b, f, h0⟩ := isBox_open h
  have hx : ¬ (k < 0 ∨ 65535 < k) ∧ x.length ≤ 65536 ∧ M k = none ∧ n < 4096 := by
    unfold putE at hok
    split at hok
    · cases hok
    · split at hok
      · cases hok
      · split at hok
        · cases hok
        · split at hok
          · cases hok
          · rename_i g1 g2 g3 g4
            refine ⟨g1, by omega, ?_, by omega⟩
            cases hm : M k with
            | none => rfl
            | some e => rw [hm] at g3; exact absurd rfl g3
  obtain ⟨gk, gx, gm, gn⟩ := hx
  obtain ⟨va, vc, rfl, hr1, hr2, hr3⟩ : ∃ va vc, v = .slice va x.length vc ∧ x.length = x.length ∧ Swf va x.length vc ∧ ∀ w, Ext I w → ∀ b, va = some b → ∀ j u, (x.map bv)[j]? = some u → w.cell? (b.add j) = some u := by
    obtain ⟨a', c', e, hw, hc⟩ := bytes_rel.1 hv
    exact ⟨a', c', e, rfl, hw, fun w he => src_ext hc he⟩
  have c0 : w.cell? ⟨p, 0, none⟩ = some (.map (some b)) := h0.cell 0
  have hlk := run_lookup_bmap (P := Try.prog) (T := 61) Try.underlying61 Try.underlying3 zeroEntry h0.p1 k true
  have hfk : f k = none := h0.p2.pers_heap.1 k gm
  rw [hfk] at hlk
  have hlk2 : (Instr.lookup 61 (.map (some b)) (.int .i64 k) true).run Try.prog w = .ok (.tuple #[.agg #[.slice none 0 0, .int .u64 0, .bool false], .bool false]) w := hlk
  have h1 := h0.alloc0 (.cells #[.slice none 0 0, .int .u64 0, .bool false] 65)
  have c1 : (w.alloc (.cells #[.slice none 0 0, .int .u64 0, .bool false] 65)).cell? ⟨p, 0, none⟩ = some (.map (some b)) := h1.cell 0
  obtain ⟨es, clock, hm1, hm2, -, hm3⟩ := h1.p1.bmap_open
  have hln := run_len_map (P := Try.prog) _ 61 3 b es clock (by kernel_rfl) hm3.blk_heap
  rw [hm2] at hln
  obtain ⟨w1, hw1⟩ : ∃ w1, w1 = w.alloc (.cells #[.slice none 0 0, .int .u64 0, .bool false] 65) := ⟨_, rfl⟩
  rw [← hw1] at h1
  have hcl := clone_any va x.length vc (x.map bv) h1 (hr3 w1 h1.p3.ext) (by simp) hr2 (bv_one x) (by omega)
  obtain ⟨xl, hxl⟩ : ∃ xl, xl = x.length := ⟨_, rfl⟩
  rw [← hxl] at hcl gx hr2 ⊢
  obtain ⟨cm, hcm⟩ : ∃ cm, cm = commitN x s := ⟨_, rfl⟩
  rw [← hcm]
  have HCM := Lib.hid hcm
  clear hcm
  have HCL := Lib.hid hcl
  have HXL := Lib.hid hxl
  have HFK := Lib.hid (And.intro hfk gm)
  have gxI : ¬ (65536 : Int) < (xl : Int) := by omega
  have gnI : ¬ (4096 : Int) ≤ (n : Int) := by omega
  have gk1 : ¬ k < 0 := by omega
  have gk2 : ¬ 65535 < k := by omega
  have HW1 := Lib.hid hw1
  clear h h0 h1 hlk hv hm1 hm2 hm3 hok gk gx gm hr1 hr2 hr3 hcl hxl hfk hw1
  go_enter Try.func11, Try.ntmps11
  go_upto_region 10 with (fail)
  rw [← HW1.out]
  go_wp2_with fail
  refine HCL.out.mono ?_
  rintro e w4 ⟨a4, c4, rfl, h4⟩
  obtain ⟨J, hJ, hb5, h6⟩ := (show Sat W w4 (sep (rBytes.is [.slice a4 xl c4] x) (sep (kn I) (sep (blk p (.cells #[.map (some b)] 63 (0, 0))) (sep (bmap b f n) (sep (sokA f M) A))))) by
    have := h4.bytes_of_osl.2
    simpa only [sep_comm, sep_lcomm, sep_assoc] using this).learn
  have h7 := (h6.alloc (.cells #[.slice a4 xl c4, .int .u64 (s : Nat), .bool false] 65)).drew
  obtain ⟨q, hq⟩ : ∃ q, q = w4.heap.size := ⟨_, rfl⟩
  obtain ⟨w5, hw5⟩ : ∃ w5, w5 = w4.alloc (.cells #[.slice a4 xl c4, .int .u64 (s : Nat), .bool false] 65) := ⟨_, rfl⟩
  rw [← hq, ← hw5] at h7
  have q0 : w5.drew.cell? ⟨q, 0, none⟩ = some (.slice a4 xl c4) := h7.cell 0
  have q1 : w5.drew.cell? ⟨q, 1, none⟩ = some (.int .u64 (s : Nat)) := h7.cell 1
  have q2 : w5.drew.cell? ⟨q, 2, none⟩ = some (.bool false) := h7.cell 2
  have p0 : w5.drew.cell? ⟨p, 0, none⟩ = some (.map (some b)) := h7.p2.cell 0
  obtain ⟨w6, n6, hup, hn6, h8⟩ := run_update_bmap (P := Try.prog) (T := 61) Try.underlying61 Try.underlying3 (h7.p3) k (.agg #[.slice a4 xl c4, .int .u64 (s : Nat), .bool false])
  rw [HFK.out.1] at hn6
  have hn7 : n6 = n + 1 := hn6
  subst hn7
  have k0 : w6.cell? ⟨q, 0, none⟩ = some (.slice a4 xl c4) := h8.p1.cell 0
  have k1 : w6.cell? ⟨q, 1, none⟩ = some (.int .u64 (s : Nat)) := h8.p1.cell 1
  have k2 : w6.cell? ⟨q, 2, none⟩ = some (.bool false) := h8.p1.cell 2
  have hbox : Sat W w6 (sep (isBox p (eset M k ⟨x, s, false⟩) (n + 1)) (sep (kn J) A)) := by
    refine isBox_mk (b := b) (f := fset f k (some (entV a4 xl c4 s false))) (n := n + 1) (by omega) ?_
    have h9 := sokA_put (f' := fset f k (some (entV a4 xl c4 s false))) (M' := eset M k ⟨x, s, false⟩) (show Sat W w6 (sep (sokA f M) (sep (kn J) (sep (blk p (.cells #[.map (some b)] 63 (0, 0))) (sep (bmap b (fset f k (some (entV a4 xl c4 s false))) (n + 1)) A)))) by
      simpa only [sep_comm, sep_lcomm, sep_assoc, entV] using h8.p1.drop) (fun K hK hs => by
      have := hs.put k ⟨x, s, false⟩ (a := a4) (c := c4) (by show x.length ≤ 65536; rw [← HXL.out]; omega) (by show rBytes.rel K [.slice a4 x.length c4] x; rw [← HXL.out]; exact rBytes.mono hK hb5)
      rw [← HXL.out] at this; exact this)
    simpa only [sep_comm, sep_lcomm, sep_assoc] using h9
  have HBOX := Lib.hid hbox
  have hce := commitE_spec a4 xl c4 s false x (show Sat W w6 (sep (kn J) (sep (isBox p (eset M k ⟨x, s, false⟩) (n + 1)) A)) by simpa only [sep_comm, sep_lcomm, sep_assoc] using hbox) hb5 (by rw [← HXL.out]; omega)
  unfold entV at hce
  rw [← HCM.out] at hce
  have HCE := Lib.hid hce
  have HQ := Lib.hid hq
  have HW5 := Lib.hid hw5
  have HJ := Lib.hid hJ
  have hS0 : True := trivial
  clear hlk2 c0 c1 hln HCL h4 h6 h7 h8 hbox hce hq hw5 hb5 hJ gxI gnI gk1 gk2
  go_upto_region 11 with (fail)
  rw [← HW5.out, ← HQ.out]
  refine wp_region_canon rfl (fun _ => True) [(0, .p), (1, .p), (2, .p), (3, .t), (4, .p), (5, .t), (6, .e false)] (by kernel_rfl) ?_
  (repeat (first | (refine C_p (v := ?_) rfl rfl (fun w' => ?_) ?_; rotate_left; (go_simp; with_reducible rfl); simp only [Act.put, List.setIfInBounds_toArray, List.set_cons_zero, List.set_cons_succ]) | (refine C_s (v := ?_) rfl rfl hS0 (fun w' hS => ?_) ?_; rotate_left; ((try dsimp only at hS); go_simp; with_reducible rfl); simp only [Act.put, List.setIfInBounds_toArray, List.set_cons_zero, List.set_cons_succ]) | (refine C_t (v := ?_) rfl rfl ?_ ?_; rotate_left; (go_simp; with_reducible rfl); simp only [Act.put, List.setIfInBounds_toArray, List.set_cons_zero, List.set_cons_succ]) | (refine C_po rfl rfl ?_; simp only [Act.put, List.setIfInBounds_toArray, List.set_cons_zero, List.set_cons_succ]) | (refine C_so rfl rfl hS0 ?_; simp only [Act.put, List.setIfInBounds_toArray, List.set_cons_zero, List.set_cons_succ]) | (refine C_to rfl rfl ?_; simp only [Act.put, List.setIfInBounds_toArray, List.set_cons_zero, List.set_cons_succ])))
  (refine C_e rfl rfl (fun K hK => ?_); go_simp)
  (refine hK _ _ (fun h => by cases h) ?_; clear hK K; (try simp only [Act.put, List.setIfInBounds_toArray, List.set_cons_zero, List.set_cons_succ]))
  (repeat (first | (refine C_p (v := ?_) rfl rfl (fun w' => ?_) ?_; rotate_left; (go_simp; with_reducible rfl); simp only [Act.put, List.setIfInBounds_toArray, List.set_cons_zero, List.set_cons_succ]) | (refine C_s (v := ?_) rfl rfl hS0 (fun w' hS => ?_) ?_; rotate_left; ((try dsimp only at hS); go_simp; with_reducible rfl); simp only [Act.put, List.setIfInBounds_toArray, List.set_cons_zero, List.set_cons_succ]) | (refine C_t (v := ?_) rfl rfl ?_ ?_; rotate_left; (go_simp; with_reducible rfl); simp only [Act.put, List.setIfInBounds_toArray, List.set_cons_zero, List.set_cons_succ]) | (refine C_po rfl rfl ?_; simp only [Act.put, List.setIfInBounds_toArray, List.set_cons_zero, List.set_cons_succ]) | (refine C_so rfl rfl hS0 ?_; simp only [Act.put, List.setIfInBounds_toArray, List.set_cons_zero, List.set_cons_succ]) | (refine C_to rfl rfl ?_; simp only [Act.put, List.setIfInBounds_toArray, List.set_cons_zero, List.set_cons_succ])))
  refine C_nil ?_
  clear q0 q1 q2 p0 hup
  go_wp2_with fail
  refine HCE.out.mono ?_
  rintro e w7 ⟨rfl, hS⟩
  go_wp2_with fail
  go_ret2
  refine ⟨rfl, ?_⟩
  have := hS.kn_mono HJ.out
  simpa only [sep_comm, sep_lcomm, sep_assoc] using this
end Go.Proofs.Ytcnonbhhlbplpaa
