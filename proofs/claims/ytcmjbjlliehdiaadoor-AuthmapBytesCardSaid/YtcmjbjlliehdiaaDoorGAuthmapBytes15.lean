/- Package authmap: Set, Delete, Get, Root, Len. -/
import Derived.Test.YtcmjbjlliehdiaaDoorGAuthmapBytesSQ4
import Derived.Test.YtcmjbjlliehdiaaDoorGAuthmapBytes14
namespace Go.Proofs.YtcmjbjlliehdiaaDoor
open Go.RowKit PA
def setE (k : Int) (x : List UInt8) : Nat := if k < 0 ∨ 4095 < k then 5 else if 65536 < x.length then 4 else 0
theorem osl_learnQ {W w : World} {A : Assn} {I : Mem} {a : Option Addr} {l c : Nat} {gb : List UInt8} (h : Sat W w (sep (osl 5 1 a l c (gb.map bv)) (sep (kn I) A))) (hl : l = gb.length) : ∃ J, Mem.le I J ∧ rBytes.rel J [.slice a l c] gb ∧ Sat W w (sep (kn J) A) := by
  subst hl
  exact h.bytes_of_osl.2.learn
theorem aset_range {W w : World} {A : Assn} (p : Nat) (k : Int) (v : Value) (h : Sat W w A) (hk : k < 0 ∨ 4095 < k) :
    Calls Tryd.prog 13 #[.pointer (some ⟨p, 0, none⟩), .int .i64 k, v] w fun e w' => e = .returned (.int .i64 5) ∧ Sat W w' A := by
  have hi := aiskey_spec k w
  rw [decide_eq_false (by omega)] at hi
  have HI := Lib.hid hi
  clear hi
  go_enter Tryd.func13, Tryd.ntmps13
  go_wp2_with fail
  refine HI.out.mono ?_
  rintro e w' ⟨rfl, rfl⟩
  go_wp2_with fail
  go_ret
  exact ⟨rfl, h⟩
theorem aset_limit {W w : World} {A : Assn} (p : Nat) (k : Int) (a : Option Addr) (n c : Nat) (h : Sat W w A) (hk : 0 ≤ k ∧ k ≤ 4095) (hn : 65536 < n) :
    Calls Tryd.prog 13 #[.pointer (some ⟨p, 0, none⟩), .int .i64 k, .slice a n c] w fun e w' => e = .returned (.int .i64 4) ∧ Sat W w' A := by
  have hi := aiskey_spec k w
  rw [decide_eq_true hk] at hi
  have HI := Lib.hid hi
  have hnI : (n : Int) > 65536 := by omega
  clear hi hn
  go_enter Tryd.func13, Tryd.ntmps13
  go_wp2_with fail
  refine HI.out.mono ?_
  rintro e w' ⟨rfl, rfl⟩
  go_wp2_with fail
  go_ret
  exact ⟨rfl, h⟩
theorem vokA_step {W w : World} {A : Assn} {I : Mem} {f f' : Int → Option Value} {M M' : KVs} (h : Sat W w (sep (vokA f M) (sep (kn I) A))) (hp : ∀ J, Mem.le I J → VOK J f M → VOK J f' M') : Sat W w (sep (vokA f' M') (sep (kn I) A)) := by
  refine h.wk ?_
  rintro J m ⟨x, y, h1, rfl, ⟨rfl, h2⟩, x', y', h3, rfl, ⟨rfl, hle⟩, h4⟩
  exact ⟨Mem.no, _, h1, rfl, ⟨rfl, hp J hle h2⟩, Mem.no, y', h3, rfl, ⟨rfl, hle⟩, h4⟩
set_option maxRecDepth 100000 in
set_option maxHeartbeats 4000000 in
theorem aset_ok {W w : World} {A : Assn} {I : Mem} (hw : WholeOK W) (p : Nat) (M : KVs) (k : Int) (v : Value) (x : List UInt8) (h : Sat W w (sep (isAM p M) (sep (kn I) A))) (hv : rBytes.rel I [v] x) (hk : 0 ≤ k ∧ k ≤ 4095) (hx : x.length ≤ 65536) :
    Calls Tryd.prog 13 #[.pointer (some ⟨p, 0, none⟩), .int .i64 k, v] w fun e w' => e = .returned (.int .i64 0) ∧ Sat W w' (sep (isAM p (fset M k (some x))) (sep (kn I) A)) := by
  obtain ⟨b1, f, b2, n2, h0⟩ := isAM_open h
  obtain ⟨va, vc, rfl, -⟩ := bytes_rel.1 hv
  obtain ⟨hr1, hr2, hr3⟩ := rel_src' hv
  have hi := aiskey_spec k w
  rw [decide_eq_true hk] at hi
  have HI := Lib.hid hi
  obtain ⟨wd, hwd⟩ : ∃ wd, wd = w.drew := ⟨_, rfl⟩
  have h1 := h0.drew
  rw [← hwd] at h1
  have hcl := clone_any va x.length vc (x.map bv) h1 (hr3 wd h1.p4.ext) (by simp) hr2 (bv_one x) (by omega)
  obtain ⟨xl, hxl⟩ : ∃ xl, xl = x.length := ⟨_, rfl⟩
  rw [← hxl] at hcl hx hv
  rw [← hxl]
  obtain ⟨M', hM'⟩ : ∃ M', M' = fset M k (some x) := ⟨_, rfl⟩
  rw [← hM']
  have hxI : ¬ (xl : Int) > 65536 := by omega
  have hS0 : wd.cell? ⟨p, 0, none⟩ = some (.map (some b1)) := h1.cell 0
  have HCL := Lib.hid hcl
  have HX := Lib.hid (And.intro hxl (And.intro hx (And.intro hv (And.intro hM' hk))))
  have HW := Lib.hid hw
  clear h h0 h1 hcl hxl hx hv hM' hi hr1 hr2 hr3 hk hw
  go_enter Tryd.func13, Tryd.ntmps13
  go_wp2_with fail
  refine HI.out.mono ?_
  rintro e w' ⟨rfl, rfl⟩
  clear HI
  go_wp2_with fail
  refine wp_region_canon rfl (fun w' => w'.cell? ⟨p, 0, none⟩ = some (.map (some b1))) [(0, .p), (1, .p), (2, .p), (3, .s), (4, .p), (5, .p), (6, .e true), (7, .e false)] (by kernel_rfl) ?_
  rw [← hwd]
  clear hwd
  (repeat (first | (refine C_p (v := ?_) rfl rfl (fun w' => ?_) ?_; rotate_left; (go_simp; with_reducible rfl); simp only [Act.put, List.setIfInBounds_toArray, List.set_cons_zero, List.set_cons_succ]) | (refine C_s (v := ?_) rfl rfl hS0 (fun w' hS => ?_) ?_; rotate_left; ((try dsimp only at hS); go_simp; with_reducible rfl); simp only [Act.put, List.setIfInBounds_toArray, List.set_cons_zero, List.set_cons_succ]) | (refine C_t (v := ?_) rfl rfl ?_ ?_; rotate_left; (go_simp; with_reducible rfl); simp only [Act.put, List.setIfInBounds_toArray, List.set_cons_zero, List.set_cons_succ]) | (refine C_po rfl rfl ?_; simp only [Act.put, List.setIfInBounds_toArray, List.set_cons_zero, List.set_cons_succ]) | (refine C_so rfl rfl hS0 ?_; simp only [Act.put, List.setIfInBounds_toArray, List.set_cons_zero, List.set_cons_succ]) | (refine C_to rfl rfl ?_; simp only [Act.put, List.setIfInBounds_toArray, List.set_cons_zero, List.set_cons_succ])))
  (refine C_e rfl rfl (fun K hK => ?_); go_simp)
  refine HCL.out.mono ?_
  rintro e w1 ⟨a', c', rfl, h2⟩
  clear HCL hS0
  obtain ⟨J, hJ, hr, h3⟩ := osl_learnQ (show Sat W w1 (sep (osl 5 1 a' xl c' (x.map bv)) (sep (kn I) (sep (blk p (.cells (amC b1 b2) 92 (0, 0))) (sep (bmap b1 f (nkeys M)) (sep (gmap bkv b2 (hmF M) n2) (sep (vokA f M) A)))))) by simpa only [sep_comm, sep_lcomm, sep_assoc] using h2) HX.out.1
  clear h2
  have hS0 : w1.cell? ⟨p, 0, none⟩ = some (.map (some b1)) := h3.p1.cell 0
  have hb3 : Sat W w1 (sep (bmap b1 f (nkeys M)) (sep (vokA f M) (sep (kn J) (sep (blk p (.cells (amC b1 b2) 92 (0, 0))) (sep (gmap bkv b2 (hmF M) n2) A))))) := by simpa only [sep_comm, sep_lcomm, sep_assoc] using h3
  have hvs := hb3.p1.pers_heap.isSome k
  obtain ⟨w2, n', hrun, hn', h4⟩ := run_update_bmap (P := Tryd.prog) (T := 89) Tryd.underlying89 Tryd.underlying3 hb3 k (.slice a' xl c')
  have hn2 : n' = nkeys M' := by
    rw [hn', hvs, HX.out.2.2.2.1]
    cases hm : M k with
    | none => rw [nkeys_new x HX.out.2.2.2.2.1 HX.out.2.2.2.2.2 hm, if_neg (fun e => by cases e)]
    | some y => rw [nkeys_old x (by rw [hm]; rfl), if_pos Option.isSome_some]
  rw [hn2] at h4
  have h5 := vokA_step (M' := M') (f' := fset f k (some (.slice a' xl c'))) (show Sat W w2 (sep (vokA f M) (sep (kn J) (sep (bmap b1 (fset f k (some (.slice a' xl c'))) (nkeys M')) (sep (blk p (.cells (amC b1 b2) 92 (0, 0))) (sep (gmap bkv b2 (hmF M) n2) A))))) by simpa only [sep_comm, sep_lcomm, sep_assoc] using h4) (fun K hK hvk => by
    have hr' := rBytes.mono hK hr
    rw [HX.out.2.2.2.1]
    have e := HX.out.1
    have hx := HX.out.2.1
    rw [e] at hr' hx ⊢
    exact hvk.put k x ⟨HX.out.2.2.2.2.1, HX.out.2.2.2.2.2, hx⟩ hr')
  have hlf := aleaf_spec k (.slice va xl vc) x (show Sat W w2 (sep (kn J) (sep (vokA (fset f k (some (.slice a' xl c'))) M') (sep (bmap b1 (fset f k (some (.slice a' xl c'))) (nkeys M')) (sep (blk p (.cells (amC b1 b2) 92 (0, 0))) (sep (gmap bkv b2 (hmF M) n2) A))))) by simpa only [sep_comm, sep_lcomm, sep_assoc] using h5) (rBytes.mono hJ HX.out.2.2.1) (by have := HX.out.1; have := HX.out.2.1; omega)
  obtain ⟨lf, hlfe⟩ : ∃ lf, lf = leafN k x := ⟨_, rfl⟩
  rw [← hlfe] at hlf
  have HLF := Lib.hid hlf
  have HL := Lib.hid hlfe
  have HJ := Lib.hid hJ
  clear h3 hb3 hvs hn' hn2 h4 h5 hlf hlfe hr hJ
  (refine hK _ _ (fun _ => hS0) ?_; clear hK K; (try simp only [Act.put, List.setIfInBounds_toArray, List.set_cons_zero, List.set_cons_succ]))
  (repeat (first | (refine C_p (v := ?_) rfl rfl (fun w' => ?_) ?_; rotate_left; (go_simp; with_reducible rfl); simp only [Act.put, List.setIfInBounds_toArray, List.set_cons_zero, List.set_cons_succ]) | (refine C_s (v := ?_) rfl rfl hS0 (fun w' hS => ?_) ?_; rotate_left; ((try dsimp only at hS); go_simp; with_reducible rfl); simp only [Act.put, List.setIfInBounds_toArray, List.set_cons_zero, List.set_cons_succ]) | (refine C_t (v := ?_) rfl rfl ?_ ?_; rotate_left; (go_simp; with_reducible rfl); simp only [Act.put, List.setIfInBounds_toArray, List.set_cons_zero, List.set_cons_succ]) | (refine C_po rfl rfl ?_; simp only [Act.put, List.setIfInBounds_toArray, List.set_cons_zero, List.set_cons_succ]) | (refine C_so rfl rfl hS0 ?_; simp only [Act.put, List.setIfInBounds_toArray, List.set_cons_zero, List.set_cons_succ]) | (refine C_to rfl rfl ?_; simp only [Act.put, List.setIfInBounds_toArray, List.set_cons_zero, List.set_cons_succ])))
  (refine C_e rfl rfl (fun K hK => ?_); go_simp)
  (refine hK _ _ (fun h => by cases h) ?_; clear hK K; (try simp only [Act.put, List.setIfInBounds_toArray, List.set_cons_zero, List.set_cons_succ]))
  refine C_nil ?_
  go_wp2_with fail
  refine HLF.out.mono ?_
  rintro e w3 ⟨rfl, h6⟩
  have hpt := aput_spec HW.out p b1 b2 n2 M k (some x) HX.out.2.2.2.2.1 HX.out.2.2.2.2.2 (show Sat W w3 (sep (blk p (.cells (amC b1 b2) 92 (0, 0))) (sep (gmap bkv b2 (hmF M) n2) (sep (kn J) (sep (vokA (fset f k (some (.slice a' xl c'))) M') (sep (bmap b1 (fset f k (some (.slice a' xl c'))) (nkeys M')) A))))) by simpa only [sep_comm, sep_lcomm, sep_assoc] using h6)
  have es : sumV (hbN (fset M k (some x)) 0 k) = .agg #[.int .u64 (lf : Int), .bool true] := by
    have e1 : hbN (fset M k (some x)) 0 k = some lf := by rw [hbN, HL.out, fset, if_pos rfl, Option.map_some]
    rw [e1, sumV, Option.getD_some, Option.isSome_some]
  rw [es, ← HX.out.2.2.2.1] at hpt
  have HPT := Lib.hid hpt
  clear HLF h6 hpt es hrun hS0
  go_wp2_with fail
  refine HPT.out.mono ?_
  rintro e w4 ⟨rfl, n4, h7⟩
  have h8 := isAM_mk (M := M') (p := p) (show Sat W w4 (sep (blk p (.cells (amC b1 b2) 92 (0, 0))) (sep (bmap b1 (fset f k (some (.slice a' xl c'))) (nkeys M')) (sep (gmap bkv b2 (hmF M') n4) (sep (vokA (fset f k (some (.slice a' xl c'))) M') (sep (kn J) A))))) by simpa only [sep_comm, sep_lcomm, sep_assoc] using h7)
  have h9 : Sat W w4 (sep (isAM p M') (sep (kn I) A)) := by
    have := h8.p1.kn_mono HJ.out
    simpa only [sep_comm, sep_lcomm, sep_assoc] using this
  have H9 := Lib.hid h9
  clear HPT h7 h8 h9
  go_wp2_with fail
  go_ret
  exact ⟨rfl, H9.out⟩
end Go.Proofs.YtcmjbjlliehdiaaDoor
/- Package authmap: Delete, Root, Len, Get. -/
namespace Go.Proofs.YtcmjbjlliehdiaaDoor
open Go.RowKit PA
theorem adel_range {W w : World} {A : Assn} (p : Nat) (k : Int) (h : Sat W w A) (hk : k < 0 ∨ 4095 < k) :
    Calls Tryd.prog 15 #[.pointer (some ⟨p, 0, none⟩), .int .i64 k] w fun e w' => e = .returned (.int .i64 5) ∧ Sat W w' A := by
  have hi := aiskey_spec k w
  rw [decide_eq_false (by omega)] at hi
  have HI := Lib.hid hi
  clear hi
  go_enter Tryd.func15, Tryd.ntmps15
  go_wp2_with fail
  refine HI.out.mono ?_
  rintro e w' ⟨rfl, rfl⟩
  go_wp2_with fail
  go_ret
  exact ⟨rfl, h⟩
theorem adel_none {W w : World} {A : Assn} (p : Nat) (M : KVs) (k : Int) (h : Sat W w (sep (isAM p M) A)) (hk : 0 ≤ k ∧ k ≤ 4095) (hm : M k = none) :
    Calls Tryd.prog 15 #[.pointer (some ⟨p, 0, none⟩), .int .i64 k] w fun e w' => e = .returned (.int .i64 7) ∧ Sat W w' (sep (isAM p M) A) := by
  have hi := aiskey_spec k w
  rw [decide_eq_true hk] at hi
  have HI := Lib.hid hi
  obtain ⟨b1, f, b2, n2, h0⟩ := isAM_open h
  have c0 : w.cell? ⟨p, 0, none⟩ = some (.map (some b1)) := h0.cell 0
  have hlk := run_lookup_bmap (P := Tryd.prog) (T := 89) Tryd.underlying89 Tryd.underlying3 zeroBs h0.p1 k true
  rw [h0.p3.pers_heap.1 k hm] at hlk
  have hlk2 : (Instr.lookup 89 (.map (some b1)) (.int .i64 k) true).run Tryd.prog w = .ok (.tuple #[.slice none 0 0, .bool false]) w := hlk
  have H := Lib.hid h
  clear hi h h0 hlk
  go_enter Tryd.func15, Tryd.ntmps15
  go_wp2_with fail
  refine HI.out.mono ?_
  rintro e w' ⟨rfl, rfl⟩
  go_wp2_with fail
  go_ret
  exact ⟨rfl, H.out⟩
set_option maxRecDepth 100000 in
set_option maxHeartbeats 4000000 in
theorem adel_ok {W w : World} {A : Assn} {I : Mem} (hw : WholeOK W) (p : Nat) (M : KVs) (k : Int) (h : Sat W w (sep (isAM p M) (sep (kn I) A))) (hk : 0 ≤ k ∧ k ≤ 4095) (hm : (M k).isSome = true) :
    Calls Tryd.prog 15 #[.pointer (some ⟨p, 0, none⟩), .int .i64 k] w fun e w' => e = .returned (.int .i64 0) ∧ Sat W w' (sep (isAM p (fset M k none)) (sep (kn I) A)) := by
  have hi := aiskey_spec k w
  rw [decide_eq_true hk] at hi
  have HI := Lib.hid hi
  obtain ⟨b1, f, b2, n2, h0⟩ := isAM_open h
  have c0 : w.cell? ⟨p, 0, none⟩ = some (.map (some b1)) := h0.cell 0
  have hlk := run_lookup_bmap (P := Tryd.prog) (T := 89) Tryd.underlying89 Tryd.underlying3 zeroBs h0.p1 k true
  have hfs := h0.p3.pers_heap.isSome k
  rw [hm] at hfs
  rw [hfs] at hlk
  obtain ⟨u, hu⟩ : ∃ u, u = (f k).getD (.slice none 0 0) := ⟨_, rfl⟩
  rw [← hu] at hlk
  have hlk2 : (Instr.lookup 89 (.map (some b1)) (.int .i64 k) true).run Tryd.prog w = .ok (.tuple #[u, .bool true]) w := hlk
  obtain ⟨w2, hrun, h4⟩ := run_delete_bmap (P := Tryd.prog) (T := 89) (ty := 0) (u := 3) Tryd.underlying89 Tryd.underlying3 h0.p1 k hfs
  obtain ⟨M', hM'⟩ : ∃ M', M' = fset M k none := ⟨_, rfl⟩
  rw [← hM']
  have hn2 : nkeys M - 1 = nkeys M' := by
    have := nkeys_del hk.1 hk.2 hm
    rw [hM']; omega
  rw [hn2] at h4
  have h5 := vokA_step (M' := M') (f' := fset f k none) (show Sat W w2 (sep (vokA f M) (sep (kn I) (sep (bmap b1 (fset f k none) (nkeys M')) (sep (blk p (.cells (amC b1 b2) 92 (0, 0))) (sep (gmap bkv b2 (hmF M) n2) A))))) by simpa only [sep_comm, sep_lcomm, sep_assoc] using h4) (fun K hK hvk => by
    rw [hM']; exact hvk.del k)
  have hpt := aput_spec hw p b1 b2 n2 M k none hk.1 hk.2 (show Sat W w2 (sep (blk p (.cells (amC b1 b2) 92 (0, 0))) (sep (gmap bkv b2 (hmF M) n2) (sep (kn I) (sep (vokA (fset f k none) M') (sep (bmap b1 (fset f k none) (nkeys M')) A))))) by simpa only [sep_comm, sep_lcomm, sep_assoc] using h5)
  have e1 : hbN (fset M k none) 0 k = none := by rw [hbN, fset, if_pos rfl, Option.map_none]
  rw [e1, sumV, Option.getD_none, Option.isSome_none, ← hM'] at hpt
  have hpt2 : Calls Tryd.prog 49 #[.pointer (some ⟨p, 0, none⟩), .int .i64 k, .agg #[.int .u64 0, .bool false]] w2 fun e w' => e = .returned (.tuple #[]) ∧ ∃ n2', Sat W w' (sep (blk p (.cells (amC b1 b2) 92 (0, 0))) (sep (gmap bkv b2 (hmF M') n2') (sep (kn I) (sep (vokA (fset f k none) M') (sep (bmap b1 (fset f k none) (nkeys M')) A))))) := hpt
  have HPT := Lib.hid hpt2
  clear hi h h0 hlk hpt hpt2 h4 h5 e1 hn2 hM' hfs hu hm hw
  go_enter Tryd.func15, Tryd.ntmps15
  go_wp2_with fail
  refine HI.out.mono ?_
  rintro e w' ⟨rfl, rfl⟩
  go_wp2_with fail
  refine HPT.out.mono ?_
  rintro e w4 ⟨rfl, n4, h7⟩
  have h8 := isAM_mk (M := M') (p := p) (show Sat W w4 (sep (blk p (.cells (amC b1 b2) 92 (0, 0))) (sep (bmap b1 (fset f k none) (nkeys M')) (sep (gmap bkv b2 (hmF M') n4) (sep (vokA (fset f k none) M') (sep (kn I) A))))) by simpa only [sep_comm, sep_lcomm, sep_assoc] using h7)
  have H9 := Lib.hid h8
  clear HPT h7 h8
  go_wp2_with fail
  go_ret
  exact ⟨rfl, H9.out⟩
def rootN (M : KVs) : Nat := (hbN M 12 0).getD 0
set_option maxHeartbeats 2000000 in
theorem aroot_spec {W w : World} {A : Assn} (hw : WholeOK W) (p : Nat) (M : KVs) (h : Sat W w (sep (isAM p M) A)) :
    Calls Tryd.prog 18 #[.pointer (some ⟨p, 0, none⟩)] w fun e w' => e = .returned (.int .u64 (rootN M : Nat)) ∧ Sat W w' (sep (isAM p M) A) := by
  obtain ⟨wd, hwd⟩ : ∃ wd, wd = w.drew := ⟨_, rfl⟩
  have h1 := h.drew
  rw [← hwd] at h1
  obtain ⟨b1, f, b2, n2, h0⟩ := isAM_open h1
  obtain ⟨q0, q1⟩ := hw.now h0
  have c1 : wd.cell? ⟨p, 1, none⟩ = some (.map (some b2)) := h0.cell 1
  have hlk := run_lookup_gmap (P := Tryd.prog) (T := 90) Tryd.underlying90 blk_key zeroU64 h0.p2 (12, 0) false
  obtain ⟨r, hr⟩ : ∃ r, r = rootN M := ⟨_, rfl⟩
  have e1 : (hmF M (12, 0)).getD (.int .u64 0) = .int .u64 (r : Nat) := by
    rw [hr, hmF, if_pos (Nat.le_refl _), rootN]
    cases hbN M 12 0 <;> rfl
  rw [e1] at hlk
  have hlk2 : (Instr.lookup 90 (.map (some b2)) (.agg #[.int .i64 12, .int .i64 0]) false).run Tryd.prog wd = .ok (.int .u64 (r : Nat)) wd := hlk
  rw [← hr]
  have H := Lib.hid h1
  clear h h0 h1 hlk e1 hr hw
  go_enter Tryd.func18, Tryd.ntmps18
  go_wp2_with fail
  refine wp_region_canon rfl (fun _ => True) [(0, .p), (1, .p), (2, .p), (3, .t), (4, .t), (5, .t), (6, .p)] (by kernel_rfl) ?_
  rw [← hwd]
  clear hwd
  have hS0 : True := trivial
  (repeat (first | (refine C_p (v := ?_) rfl rfl (fun w' => ?_) ?_; rotate_left; (go_simp; with_reducible rfl); simp only [Act.put, List.setIfInBounds_toArray, List.set_cons_zero, List.set_cons_succ]) | (refine C_s (v := ?_) rfl rfl hS0 (fun w' hS => ?_) ?_; rotate_left; ((try dsimp only at hS); go_simp; with_reducible rfl); simp only [Act.put, List.setIfInBounds_toArray, List.set_cons_zero, List.set_cons_succ]) | (refine C_t (v := ?_) rfl rfl ?_ ?_; rotate_left; (go_simp; with_reducible rfl); simp only [Act.put, List.setIfInBounds_toArray, List.set_cons_zero, List.set_cons_succ]) | (refine C_po rfl rfl ?_; simp only [Act.put, List.setIfInBounds_toArray, List.set_cons_zero, List.set_cons_succ]) | (refine C_so rfl rfl hS0 ?_; simp only [Act.put, List.setIfInBounds_toArray, List.set_cons_zero, List.set_cons_succ]) | (refine C_to rfl rfl ?_; simp only [Act.put, List.setIfInBounds_toArray, List.set_cons_zero, List.set_cons_succ])))
  refine C_nil ?_
  go_wp2_with fail
  go_ret
  exact ⟨rfl, H.out⟩
theorem alen_spec {W w : World} {A : Assn} (p : Nat) (M : KVs) (h : Sat W w (sep (isAM p M) A)) :
    Calls Tryd.prog 19 #[.pointer (some ⟨p, 0, none⟩)] w fun e w' => e = .returned (.int .i64 (nkeys M : Nat)) ∧ Sat W w' (sep (isAM p M) A) := by
  obtain ⟨b1, f, b2, n2, h0⟩ := isAM_open h
  have c0 : w.cell? ⟨p, 0, none⟩ = some (.map (some b1)) := h0.cell 0
  obtain ⟨es, clock, hm1, hm2, -, hm3⟩ := h0.p1.bmap_open
  have hln := run_len_map (P := Tryd.prog) w 89 3 b1 es clock (by kernel_rfl) hm3.blk_heap
  rw [hm2] at hln
  obtain ⟨nk, hnk⟩ : ∃ nk, nk = nkeys M := ⟨_, rfl⟩
  rw [← hnk] at hln
  rw [← hnk]
  have H := Lib.hid h
  clear h h0 hm1 hm2 hm3 hnk
  go_enter Tryd.func19, Tryd.ntmps19
  go_wp2_with fail
  go_ret
  exact ⟨rfl, H.out⟩
set_option maxHeartbeats 2000000 in
theorem aget_spec {W w : World} {A : Assn} (p : Nat) (M : KVs) (k : Int) (h : Sat W w (sep (isAM p M) A)) :
    Calls Tryd.prog 46 #[.pointer (some ⟨p, 0, none⟩), .int .i64 k] w fun e w' => ∃ a c, e = .returned (.tuple #[.slice a ((M k).getD []).length c, .bool (M k).isSome]) ∧ Sat W w' (sep (osl 5 1 a ((M k).getD []).length c (((M k).getD []).map bv)) (sep (isAM p M) A)) := by
  obtain ⟨b1, f, b2, n2, h0⟩ := isAM_open h
  have c0 : w.cell? ⟨p, 0, none⟩ = some (.map (some b1)) := h0.cell 0
  have hlk := run_lookup_bmap (P := Tryd.prog) (T := 89) Tryd.underlying89 Tryd.underlying3 zeroBs h0.p1 k true
  have hvk := h0.p3.pers_heap
  rw [hvk.isSome k] at hlk
  obtain ⟨x, hx⟩ : ∃ x, x = (M k).getD [] := ⟨_, rfl⟩
  rw [← hx]
  have hv0 : ∃ a c, (f k).getD (.slice none 0 0) = .slice a x.length c ∧ x.length ≤ 65536 ∧ rBytes.rel (fun b => w.heap[b]?) [.slice a x.length c] x := by
    cases hm : M k with
    | none =>
      rw [hm] at hx
      subst hx
      rw [hvk.1 k hm]
      exact ⟨none, 0, rfl, by simp, bytes_rel.2 ⟨none, 0, rfl, ⟨Nat.le_refl _, Nat.zero_le _, fun _ => rfl⟩, .inl rfl⟩⟩
    | some y =>
      rw [hm] at hx
      subst hx
      obtain ⟨h1, a, c, e1, hr⟩ := hvk.2 k _ hm
      rw [e1]
      exact ⟨a, c, rfl, h1.2.2, hr⟩
  obtain ⟨a0, c1, e0, hxl, hr⟩ := hv0
  rw [e0] at hlk
  obtain ⟨hr1, hr2, hr3⟩ := rel_src' hr
  have hcl := clone_any a0 x.length c1 (x.map bv) h (hr3 w (fun b o ho => ho)) (by simp) hr2 (bv_one x) (by omega)
  obtain ⟨xl, hxe⟩ : ∃ xl, xl = x.length := ⟨_, rfl⟩
  obtain ⟨sm, hsm⟩ : ∃ sm, sm = (M k).isSome := ⟨_, rfl⟩
  rw [← hxe] at hcl hlk
  rw [← hsm] at hlk
  rw [← hxe, ← hsm]
  have hlk2 : (Instr.lookup 89 (.map (some b1)) (.int .i64 k) true).run Tryd.prog w = .ok (.tuple #[.slice a0 xl c1, .bool sm]) w := hlk
  have HCL := Lib.hid hcl
  clear h h0 hvk hlk hcl e0 hr hr1 hr2 hr3 hxl hx hxe hsm
  go_enter Tryd.func46, Tryd.ntmps46
  go_wp2_with fail
  refine HCL.out.mono ?_
  rintro e w' ⟨a', c', rfl, h1⟩
  go_wp2_with fail
  go_ret2
  exact ⟨a', c', rfl, h1⟩
end Go.Proofs.YtcmjbjlliehdiaaDoor
