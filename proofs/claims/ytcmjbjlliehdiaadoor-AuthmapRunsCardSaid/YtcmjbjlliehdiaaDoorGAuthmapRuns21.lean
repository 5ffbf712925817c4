/- slices.Clone of bytes. -/
import Derived.Test.YtcmjbjlliehdiaaDoorSl2
import Derived.Test.YtcmjbjlliehdiaaDoorUtil
import Derived.Lib.SliceRun
import Derived.Test.YtcmjbjlliehdiaaDoorGAuthmapRunsSQ4
namespace Go.Proofs.YtcmjbjlliehdiaaDoor
open Go.RowKit PA
theorem infoU8c : (Tryd.prog.info? 5).map (fun i => (i.zero, i.size, i.bytes)) = some (some (.int .u8 0), 1, 1) := by kernel_rfl
theorem clone_any {W w : World} {A : Assn} (a : Option Addr) (n c : Nat) (xs : List Value) (h : Sat W w A) (hsrc : ∀ b, a = some b → ∀ j u, xs[j]? = some u → w.cell? (b.add j) = some u) (hl : xs.length = n) (hw : Swf a n c) (h1 : ∀ u ∈ xs, u.oneCell' = true) (hn : n ≤ 140737488355328) :
    Calls Tryd.prog 48 #[.slice a n c] w fun e w' => ∃ a' c', e = .returned (.slice a' n c') ∧ Sat W w' (sep (osl 5 1 a' n c' xs) A) := by
  obtain ⟨hw1, hw2, hw3⟩ := hw
  have hq := fun w a n c => Lib.run_eql_slice_nil (P := Tryd.prog) w 32 5 a n c 0 0 Tryd.underlying32
  cases a with
  | none =>
    obtain rfl := hw3 rfl
    obtain rfl : n = 0 := by omega
    obtain rfl : xs = [] := List.eq_nil_of_length_eq_zero hl
    clear hsrc
    go_enter Tryd.func48, Tryd.ntmps48
    go_wp2
    go_ret
    exact ⟨_, _, rfl, h.osl_nil _ _⟩
  | some b =>
    have hS := (h.alloc (.cells #[] 5)).osl_mk 0 0 1 [] rfl (by omega) (by unfold maxLen; omega) rfl rfl
    have hc2 := Lib.hid (old_src (hsrc b rfl) (.cells #[] 5))
    have HN := Lib.hid hn
    have HW2 := Lib.hid hw2
    have HW1 := Lib.hid hw1
    clear hsrc hn hw1 hw2 hw3
    go_enter Tryd.func48, Tryd.ntmps48
    go_wp2_with (at_builtin; refine wpl_append_osl rfl _ _ 32 rfl 5 1 1 (.int .u8 0) Tryd.underlying32 infoU8c rfl rfl hS rfl xs (by omega) (by simp) (by intro b' hb; cases hb; exact hc2.out) h1 (by have := HN.out; omega) (by have := HN.out; unfold maxLen; omega) ?_)
    intro a' c' w' hS'
    go_wp2
    go_ret
    refine ⟨a', c', ?_, ?_⟩
    · simp
    · simpa using hS'
/-- What is owned, as an append's source. -/
theorem _root_.PA.Sat.osl_src {W w : World} {A : Assn} {E : Nat} {a : Option Addr} {n c : Nat} {xs : List Value} (h : Sat W w (sep (osl E 1 a n c xs) A)) : ∀ b, a = some b → ∀ j u, xs[j]? = some u → w.cell? (b.add j) = some u := by
  intro b hb j u hu
  obtain ⟨g, e, hc⟩ := h.osl_at (fun e => by rw [e] at hu; simp at hu)
  rw [hb] at e; cases e
  have := hc j u hu
  unfold Addr.add
  split
  · rename_i e; subst e; exact this
  · simpa using this
theorem rel_src' {I : Mem} {a : Option Addr} {n c : Nat} {l : List UInt8} (h : rBytes.rel I [.slice a n c] l) :
    l.length = n ∧ Swf a n c ∧ ∀ w, Ext I w → ∀ b, a = some b → ∀ j u, (l.map bv)[j]? = some u → w.cell? (b.add j) = some u := by
  obtain ⟨a', c', e, hw, hc⟩ := bytes_rel.1 h
  simp only [Value.slice.injEq] at e
  obtain ⟨rfl, rfl, rfl⟩ := e
  exact ⟨rfl, hw, fun w he => src_ext hc he⟩
end Go.Proofs.YtcmjbjlliehdiaaDoor
/- Package authmap: Set, Delete, Get, Root, Len. -/
namespace Go.Proofs.YtcmjbjlliehdiaaDoor
open Go.RowKit PA
def setE (k : Int) (x : List UInt8) : Nat := if k < 0 ∨ 4095 < k then 5 else if 65536 < x.length then 4 else 0
theorem osl_learnQ {W w : World} {A : Assn} {I : Mem} {a : Option Addr} {l c : Nat} {gb : List UInt8} (h : Sat W w (sep (osl 5 1 a l c (gb.map bv)) (sep (kn I) A))) (hl : l = gb.length) : ∃ J, Mem.le I J ∧ rBytes.rel J [.slice a l c] gb ∧ Sat W w (sep (kn J) A) := by
  subst hl
  exact h.bytes_of_osl.2.learn
theorem aset_range {W w : World} {A : Assn} (p : Nat) (k : Int) (v : Value) (h : Sat W w A) (hk : k < 0 ∨ 4095 < k) :
    Calls Tryd.prog 13 #[.pointer (some ⟨p, 0, none⟩), .int .i64 k, v] w fun e w' => e = .returned (.int .i64 5) ∧ Sat W w' A := by
  have hi := aiskey_spec k w
  rw [decide_eq_false (by omega)] at hi
  have HI := Lib.hid hi
  clear hi
  go_enter Tryd.func13, Tryd.ntmps13
  go_wp2_with fail
  refine HI.out.mono ?_
  rintro e w' ⟨rfl, rfl⟩
  go_wp2_with fail
  go_ret
  exact ⟨rfl, h⟩
theorem aset_limit {W w : World} {A : Assn} (p : Nat) (k : Int) (a : Option Addr) (n c : Nat) (h : Sat W w A) (hk : 0 ≤ k ∧ k ≤ 4095) (hn : 65536 < n) :
    Calls Tryd.prog 13 #[.pointer (some ⟨p, 0, none⟩), .int .i64 k, .slice a n c] w fun e w' => e = .returned (.int .i64 4) ∧ Sat W w' A := by
  have hi := aiskey_spec k w
  rw [decide_eq_true hk] at hi
  have HI := Lib.hid hi
  have hnI : (n : Int) > 65536 := by omega
  clear hi hn
  go_enter Tryd.func13, Tryd.ntmps13
  go_wp2_with fail
  refine HI.out.mono ?_
  rintro e w' ⟨rfl, rfl⟩
  go_wp2_with fail
  go_ret
  exact ⟨rfl, h⟩
theorem vokA_step {W w : World} {A : Assn} {I : Mem} {f f' : Int → Option Value} {M M' : KVs} (h : Sat W w (sep (vokA f M) (sep (kn I) A))) (hp : ∀ J, Mem.le I J → VOK J f M → VOK J f' M') : Sat W w (sep (vokA f' M') (sep (kn I) A)) := by
  refine h.wk ?_
  rintro J m ⟨x, y, h1, rfl, ⟨rfl, h2⟩, x', y', h3, rfl, ⟨rfl, hle⟩, h4⟩
  exact ⟨Mem.no, _, h1, rfl, ⟨rfl, hp J hle h2⟩, Mem.no, y', h3, rfl, ⟨rfl, hle⟩, h4⟩
set_option maxRecDepth 100000 in
set_option maxHeartbeats 4000000 in
theorem aset_ok {W w : World} {A : Assn} {I : Mem} (hw : WholeOK W) (p : Nat) (M : KVs) (k : Int) (v : Value) (x : List UInt8) (h : Sat W w (sep (isAM p M) (sep (kn I) A))) (hv : rBytes.rel I [v] x) (hk : 0 ≤ k ∧ k ≤ 4095) (hx : x.length ≤ 65536) :
    Calls Tryd.prog 13 #[.pointer (some ⟨p, 0, none⟩), .int .i64 k, v] w fun e w' => e = .returned (.int .i64 0) ∧ Sat W w' (sep (isAM p (fset M k (some x))) (sep (kn I) A)) := by
  obtain ⟨b1, f, b2, n2, h0⟩ := isAM_open h
  obtain ⟨va, vc, rfl, -⟩ := bytes_rel.1 hv
  obtain ⟨hr1, hr2, hr3⟩ := rel_src' hv
  have hi := aiskey_spec k w
  rw [decide_eq_true hk] at hi
  have HI := Lib.hid hi
  obtain ⟨wd, hwd⟩ : ∃ wd, wd = w.drew := ⟨_, rfl⟩
  have h1 := h0.drew
  rw [← hwd] at h1
  have hcl := clone_any va x.length vc (x.map bv) h1 (hr3 wd h1.p4.ext) (by simp) hr2 (bv_one x) (by omega)
  obtain ⟨xl, hxl⟩ : ∃ xl, xl = x.length := ⟨_, rfl⟩
  rw [← hxl] at hcl hx hv
  rw [← hxl]
  obtain ⟨M', hM'⟩ : ∃ M', M' = fset M k (some x) := ⟨_, rfl⟩
  rw [← hM']
  have hxI : ¬ (xl : Int) > 65536 := by omega
  have hS0 : wd.cell? ⟨p, 0, none⟩ = some (.map (some b1)) := h1.cell 0
  have HCL := Lib.hid hcl
  have HX := Lib.hid (And.intro hxl (And.intro hx (And.intro hv (And.intro hM' hk))))
  have HW := Lib.hid hw
  clear h h0 h1 hcl hxl hx hv hM' hi hr1 hr2 hr3 hk hw
  go_enter Tryd.func13, Tryd.ntmps13
  go_wp2_with fail
  refine HI.out.mono ?_
  rintro e w' ⟨rfl, rfl⟩
  clear HI
  go_wp2_with fail
  refine wp_region_canon rfl (fun w' => w'.cell? ⟨p, 0, none⟩ = some (.map (some b1))) [(0, .p), (1, .p), (2, .p), (3, .s), (4, .p), (5, .p), (6, .e true), (7, .e false)] (by kernel_rfl) ?_
  rw [← hwd]
  clear hwd
  (repeat (first | (refine C_p (v := ?_) rfl rfl (fun w' => ?_) ?_; rotate_left; (go_simp; with_reducible rfl); simp only [Act.put, List.setIfInBounds_toArray, List.set_cons_zero, List.set_cons_succ]) | (refine C_s (v := ?_) rfl rfl hS0 (fun w' hS => ?_) ?_; rotate_left; ((try dsimp only at hS); go_simp; with_reducible rfl); simp only [Act.put, List.setIfInBounds_toArray, List.set_cons_zero, List.set_cons_succ]) | (refine C_t (v := ?_) rfl rfl ?_ ?_; rotate_left; (go_simp; with_reducible rfl); simp only [Act.put, List.setIfInBounds_toArray, List.set_cons_zero, List.set_cons_succ]) | (refine C_po rfl rfl ?_; simp only [Act.put, List.setIfInBounds_toArray, List.set_cons_zero, List.set_cons_succ]) | (refine C_so rfl rfl hS0 ?_; simp only [Act.put, List.setIfInBounds_toArray, List.set_cons_zero, List.set_cons_succ]) | (refine C_to rfl rfl ?_; simp only [Act.put, List.setIfInBounds_toArray, List.set_cons_zero, List.set_cons_succ])))
  (refine C_e rfl rfl (fun K hK => ?_); go_simp)
  refine HCL.out.mono ?_
  rintro e w1 ⟨a', c', rfl, h2⟩
  clear HCL hS0
  obtain ⟨J, hJ, hr, h3⟩ := osl_learnQ (show Sat W w1 (sep (osl 5 1 a' xl c' (x.map bv)) (sep (kn I) (sep (blk p (.cells (amC b1 b2) 92 (0, 0))) (sep (bmap b1 f (nkeys M)) (sep (gmap bkv b2 (hmF M) n2) (sep (vokA f M) A)))))) by simpa only [sep_comm, sep_lcomm, sep_assoc] using h2) HX.out.1
  clear h2
  have hS0 : w1.cell? ⟨p, 0, none⟩ = some (.map (some b1)) := h3.p1.cell 0
  have hb3 : Sat W w1 (sep (bmap b1 f (nkeys M)) (sep (vokA f M) (sep (kn J) (sep (blk p (.cells (amC b1 b2) 92 (0, 0))) (sep (gmap bkv b2 (hmF M) n2) A))))) := by simpa only [sep_comm, sep_lcomm, sep_assoc] using h3
  have hvs := hb3.p1.pers_heap.isSome k
  obtain ⟨w2, n', hrun, hn', h4⟩ := run_update_bmap (P := Tryd.prog) (T := 89) Tryd.underlying89 Tryd.underlying3 hb3 k (.slice a' xl c')
  have hn2 : n' = nkeys M' := by
    rw [hn', hvs, HX.out.2.2.2.1]
    cases hm : M k with
    | none => rw [nkeys_new x HX.out.2.2.2.2.1 HX.out.2.2.2.2.2 hm, if_neg (fun e => by cases e)]
    | some y => rw [nkeys_old x (by rw [hm]; rfl), if_pos Option.isSome_some]
  rw [hn2] at h4
  have h5 := vokA_step (M' := M') (f' := fset f k (some (.slice a' xl c'))) (show Sat W w2 (sep (vokA f M) (sep (kn J) (sep (bmap b1 (fset f k (some (.slice a' xl c'))) (nkeys M')) (sep (blk p (.cells (amC b1 b2) 92 (0, 0))) (sep (gmap bkv b2 (hmF M) n2) A))))) by simpa only [sep_comm, sep_lcomm, sep_assoc] using h4) (fun K hK hvk => by
    have hr' := rBytes.mono hK hr
    rw [HX.out.2.2.2.1]
    have e := HX.out.1
    have hx := HX.out.2.1
    rw [e] at hr' hx ⊢
    exact hvk.put k x ⟨HX.out.2.2.2.2.1, HX.out.2.2.2.2.2, hx⟩ hr')
  have hlf := aleaf_spec k (.slice va xl vc) x (show Sat W w2 (sep (kn J) (sep (vokA (fset f k (some (.slice a' xl c'))) M') (sep (bmap b1 (fset f k (some (.slice a' xl c'))) (nkeys M')) (sep (blk p (.cells (amC b1 b2) 92 (0, 0))) (sep (gmap bkv b2 (hmF M) n2) A))))) by simpa only [sep_comm, sep_lcomm, sep_assoc] using h5) (rBytes.mono hJ HX.out.2.2.1) (by have := HX.out.1; have := HX.out.2.1; omega)
  obtain ⟨lf, hlfe⟩ : ∃ lf, lf = leafN k x := ⟨_, rfl⟩
  rw [← hlfe] at hlf
  have HLF := Lib.hid hlf
  have HL := Lib.hid hlfe
  have HJ := Lib.hid hJ
  clear h3 hb3 hvs hn' hn2 h4 h5 hlf hlfe hr hJ
  (refine hK _ _ (fun _ => hS0) ?_; clear hK K; (try simp only [Act.put, List.setIfInBounds_toArray, List.set_cons_zero, List.set_cons_succ]))
  (repeat (first | (refine C_p (v := ?_) rfl rfl (fun w' => ?_) ?_; rotate_left; (go_simp; with_reducible rfl); simp only [Act.put, List.setIfInBounds_toArray, List.set_cons_zero, List.set_cons_succ]) | (refine C_s (v := ?_) rfl rfl hS0 (fun w' hS => ?_) ?_; rotate_left; ((try dsimp only at hS); go_simp; with_reducible rfl); simp only [Act.put, List.setIfInBounds_toArray, List.set_cons_zero, List.set_cons_succ]) | (refine C_t (v := ?_) rfl rfl ?_ ?_; rotate_left; (go_simp; with_reducible rfl); simp only [Act.put, List.setIfInBounds_toArray, List.set_cons_zero, List.set_cons_succ]) | (refine C_po rfl rfl ?_; simp only [Act.put, List.setIfInBounds_toArray, List.set_cons_zero, List.set_cons_succ]) | (refine C_so rfl rfl hS0 ?_; simp only [Act.put, List.setIfInBounds_toArray, List.set_cons_zero, List.set_cons_succ]) | (refine C_to rfl rfl ?_; simp only [Act.put, List.setIfInBounds_toArray, List.set_cons_zero, List.set_cons_succ])))
  (refine C_e rfl rfl (fun K hK => ?_); go_simp)
  (refine hK _ _ (fun h => by cases h) ?_; clear hK K; (try simp only [Act.put, List.setIfInBounds_toArray, List.set_cons_zero, List.set_cons_succ]))
  refine C_nil ?_
  go_wp2_with fail
  refine HLF.out.mono ?_
  rintro e w3 ⟨rfl, h6⟩
  have hpt := aput_spec HW.out p b1 b2 n2 M k (some x) HX.out.2.2.2.2.1 HX.out.2.2.2.2.2 (show Sat W w3 (sep (blk p (.cells (amC b1 b2) 92 (0, 0))) (sep (gmap bkv b2 (hmF M) n2) (sep (kn J) (sep (vokA (fset f k (some (.slice a' xl c'))) M') (sep (bmap b1 (fset f k (some (.slice a' xl c'))) (nkeys M')) A))))) by simpa only [sep_comm, sep_lcomm, sep_assoc] using h6)
  have es : sumV (hbN (fset M k (some x)) 0 k) = .agg #[.int .u64 (lf : Int), .bool true] := by
    have e1 : hbN (fset M k (some x)) 0 k = some lf := by rw [hbN, HL.out, fset, if_pos rfl, Option.map_some]
    rw [e1, sumV, Option.getD_some, Option.isSome_some]
  rw [es, ← HX.out.2.2.2.1] at hpt
  have HPT := Lib.hid hpt
  clear HLF h6 hpt es hrun hS0
  go_wp2_with fail
  refine HPT.out.mono ?_
  rintro e w4 ⟨rfl, n4, h7⟩
  have h8 := isAM_mk (M := M') (p := p) (show Sat W w4 (sep (blk p (.cells (amC b1 b2) 92 (0, 0))) (sep (bmap b1 (fset f k (some (.slice a' xl c'))) (nkeys M')) (sep (gmap bkv b2 (hmF M') n4) (sep (vokA (fset f k (some (.slice a' xl c'))) M') (sep (kn J) A))))) by simpa only [sep_comm, sep_lcomm, sep_assoc] using h7)
  have h9 : Sat W w4 (sep (isAM p M') (sep (kn I) A)) := by
    have := h8.p1.kn_mono HJ.out
    simpa only [sep_comm, sep_lcomm, sep_assoc] using this
  have H9 := Lib.hid h9
  clear HPT h7 h8 h9
  go_wp2_with fail
  go_ret
  exact ⟨rfl, H9.out⟩
end Go.Proofs.YtcmjbjlliehdiaaDoor
