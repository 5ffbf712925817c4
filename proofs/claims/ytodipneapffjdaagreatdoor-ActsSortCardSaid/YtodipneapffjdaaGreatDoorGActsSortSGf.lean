/- The generator of chapter 18: the maker's filing, its beginning: the numbers. -/
import Derived.Test.YtodipneapffjdaaGreatDoorGActsSortSGe
import Derived.Test.YtodipneapffjdaaGreatDoorGActsSortSReg11
import Derived.Test.YtodipneapffjdaaGreatDoorGActsSort29
import Derived.Deep.CutRange
namespace PA
open Go
/-- An earlier filing, as the maker keeps it. -/
def FilAt (I : Mem) (N : Nat) (z : Ac) : Prop :=
  FileB N z.f ∧ (z.o = 0 ∨ z.o = 1) ∧ (z.p = 1 ∨ z.p = 2) ∧ 35600 ≤ z.d ∧ z.d ≤ 38000 ∧ ∃ td tc, (rF.slice 4).rel I [z.td.v] td ∧ (rCl.slice 5).rel I [z.tc.v] tc ∧ GoodT td tc
theorem FilAt.mono {I J : Mem} {N : Nat} {z : Ac} (hl : Mem.le I J) (h : FilAt I N z) : FilAt J N z := by
  obtain ⟨h1, h2, h3, h4, h5, td, tc, h6, h7, h8⟩ := h
  exact ⟨h1, h2, h3, h4, h5, td, tc, (rF.slice 4).mono hl h6, (rCl.slice 5).mono hl h7, h8⟩
/-- A filing under way. -/
def FilZ (N : Nat) (o p q : Int) (s t e : Sv) : Ac := ⟨0, 0, 0, 5 * (N : Int), o, p, q, 0, 0, 0, 0, s, t, Sv.none, e, 0, 0, Sv.none, Sv.none⟩
end PA
namespace Go.Proofs.YtodipneapffjdaaGreatDoor
open Go.RowKit PA
theorem FilZ_isA {J : Mem} (N : Nat) (o p q : Int) {s t e : Sv} {fs : List Fm} {cl : List Cl} {es : List Ea} (h1 : (rF.slice 4).rel J [s.v] fs) (h2 : (rCl.slice 5).rel J [t.v] cl) (h3 : (rEa.slice 2).rel J [e.v] es) :
    IsA J (FilZ N o p q s t e) { Pa.zero with f := 5 * (N : Int), o := o, p := p, q := q, td := fs, tc := cl, ea := es } :=
  ⟨rfl, rfl, rfl, rfl, rfl, rfl, rfl, rfl, rfl, rfl, rfl, h1, h2, slice_nil _ _ _, h3, rF_zero J⟩
theorem infoEarlier : (Tryz.prog.info? 62).map (fun i => (i.zero, i.size, i.bytes)) = some (some (.agg #[.int .i64 0, .int .i64 0]), 2, 16) := by kernel_rfl
/-- An act of a row, loaded. -/
theorem run_ldAct_at {w : World} {g o : Nat} {x : Ac} (h : ∀ j v, x.cells[j]? = some v → w.cell? ⟨g, o + j, none⟩ = some v) :
    Sem.run Tryz.prog (ldAct (.pointer (some ⟨g, o, none⟩))) w = .ok (.agg x.cells.toArray) w := by
  have hl : x.cells.length = kA := rfl
  have := run_loadCells_list (P := Tryz.prog) w ⟨g, o, none⟩ x.cells (fun j v hj => by
    have e : (⟨g, o, none⟩ : Addr).add j = ⟨g, o + j, none⟩ := by unfold Addr.add; split <;> simp_all
    rw [e]
    exact h j v hj)
  rw [hl] at this
  show Sem.run Tryz.prog (loadVar 37 ⟨g, o, none⟩) w = _
  unfold loadVar
  exact ldgen (Go.isAgg 37) (Go.sizeOf 37) (loadCells ⟨g, o, none⟩) _ (isAggAct w) (sizeAct w) this
theorem osl_act {W w : World} {A : Assn} {g n c : Nat} {zs : List Ac} (h : Sat W w (sep (osl 37 19 (some ⟨g, 0, none⟩) n c (acs zs)) A)) (r : Nat) (hr : r < zs.length) : ∀ j v, zs[r].cells[j]? = some v → w.cell? ⟨g, r * 19 + j, none⟩ = some v := by
  intro j v hj
  have hjl : j < 19 := (List.getElem?_eq_some_iff.1 hj).1
  have h2 := h.osl_settle.rsl_src (r * 19 + j) v (by rw [acs_at zs r hr j hjl]; exact hj)
  have e : (⟨g, 0, none⟩ : Addr).add (r * 19 + j) = ⟨g, r * 19 + j, none⟩ := by unfold Addr.add; split <;> simp_all
  rw [e] at h2
  exact h2
attribute [local go_sem ↓] storeAt_act loadAt_act buildSlice_fm buildSlice_cl
attribute [local go_sem] bsFm1 bsCl1
set_option maxRecDepth 100000 in
set_option maxHeartbeats 4000000 in
theorem filing_t {W w : World} {A : Assn} {I : Mem} {B : Nat} {day : Int} {fa : Option Addr} {fc : Nat} {zs : List Ac} (va : Value) (l : List Int) (i : Nat) (hi : i < 800000) (hv : MkV I va l) (hN : zs.length ≤ 20) (hf : ∀ z ∈ zs, FilAt I zs.length z)
    (h : Sat W w (sep (mkr B va i day (.slice fa zs.length fc)) (sep (osl 37 19 fa zs.length fc (acs zs)) (sep (kn I) A)))) :
    Calls Tryz.prog 12 #[.pointer (some ⟨B, 0, none⟩)] w fun e w' => ∃ (z : Ac) (y : Pa) (J : Mem) (i' : Nat), e = .returned (.agg z.cells.toArray) ∧ IsA J z y ∧ Filing zs.length y ∧ Mem.le I J ∧ i ≤ i' ∧ i' ≤ i + 60 ∧ Sat W w' (sep (mkr B va i' day (.slice fa zs.length fc)) (sep (osl 37 19 fa zs.length fc (acs zs)) (sep (kn J) A))) := by
  obtain ⟨N, hNN⟩ : ∃ N, N = zs.length := ⟨_, rfl⟩
  rw [← hNN] at hN h hf ⊢
  obtain ⟨R, hR⟩ : ∃ R, R = w.heap.size := ⟨_, rfl⟩
  obtain ⟨w1, hw1⟩ : ∃ w1, w1 = w.alloc (.cells #[.int .i64 0, .int .i64 0, .int .i64 0, .int .i64 0, .int .i64 0, .int .i64 0, .int .i64 0, .int .i64 0, .int .i64 0, .int .i64 0, .int .i64 0, .slice none 0 0, .slice none 0 0, .slice none 0 0, .slice none 0 0, .int .i64 0, .int .i64 0, .slice none 0 0, .slice none 0 0] 37) := ⟨_, rfl⟩
  have h1 := h.alloc (.cells #[.int .i64 0, .int .i64 0, .int .i64 0, .int .i64 0, .int .i64 0, .int .i64 0, .int .i64 0, .int .i64 0, .int .i64 0, .int .i64 0, .int .i64 0, .slice none 0 0, .slice none 0 0, .slice none 0 0, .slice none 0 0, .int .i64 0, .int .i64 0, .slice none 0 0, .slice none 0 0] 37)
  rw [← hR, ← hw1] at h1
  obtain ⟨fr, hfr⟩ : ∃ fr, fr = sep (osl 37 19 fa N fc (acs zs)) (sep (blk R (.cells #[.int .i64 0, .int .i64 0, .int .i64 0, .int .i64 0, .int .i64 0, .int .i64 0, .int .i64 0, .int .i64 0, .int .i64 0, .int .i64 0, .int .i64 0, .slice none 0 0, .slice none 0 0, .slice none 0 0, .slice none 0 0, .int .i64 0, .int .i64 0, .slice none 0 0, .slice none 0 0] 37 (0, 0))) A) := ⟨_, rfl⟩
  have h2 : Sat W w1 (sep (mkr B va i day (.slice fa N fc)) (sep (kn I) fr)) := by
    rw [hfr]
    simpa only [sep_comm, sep_lcomm, sep_assoc] using h1
  have hcall : ∀ (p : Nat), p < 900000 → ∀ (w0 : World) (A0 : Assn), Sat W w0 (sep (sep (mkr B va p day (.slice fa N fc)) (kn I)) A0) → Calls Tryz.prog 11 #[.pointer (some ⟨B, 0, none⟩), .int .i64 2] w0 fun e w' => ∃ v, e = .returned v ∧ Sat W w' (sep (sep (fact (v = .int .i64 (pickA l p 2))) (sep (mkr B va ((p + 1 : Nat) : Int) day (.slice fa N fc)) (kn I))) A0) := by
    intro p hp w0 A0 h0
    rw [sep_assoc] at h0
    refine (next_spec va l p 2 (by omega) (by omega) (by omega) hv h0).mono ?_
    rintro e w' ⟨rfl, h3⟩
    exact ⟨_, rfl, by rw [sep_assoc, sep_assoc]; exact Sat.fact.2 ⟨rfl, h3⟩⟩
  have hb1 := pickA_bd l i 2 (by omega)
  have hb2 := pickA_bd l (i + 1) 2 (by omega)
  obtain ⟨a1, ha1⟩ : ∃ z, z = pickA l i 2 := ⟨_, rfl⟩
  obtain ⟨a2, ha2⟩ : ∃ z, z = pickA l (i + 1) 2 := ⟨_, rfl⟩
  have c1 := hcall i (by omega)
  have c2 := hcall (i + 1) (by omega)
  rw [← ha1] at hb1 c1
  rw [← ha2] at hb2 c2
  have C1 := Lib.hid c1
  have C2 := Lib.hid c2
  have HR := Lib.hid (And.intro hR hw1)
  have HFR := Lib.hid hfr
  have H2 := Lib.hid h2.drew
  have HV := Lib.hid hv
  have HFL := Lib.hid hf
  have hNz : (N : Int) ≤ 20 := by omega
  have hS0 : w1.drew.cell? ⟨B, 3, none⟩ = some (.slice fa N fc) := h2.drew.cell 3
  have hmod : (5 * (N : Int)).tmod 4096 = 5 * (N : Int) := by rw [Int.tmod_eq_emod_of_nonneg (by omega)]; omega
  have HNN := Lib.hid hNN
  have HI := Lib.hid hi
  clear h h1 h2 hcall ha1 ha2 c1 c2 hR hw1 hfr hv hf hNN hN hi
  go_enter Tryz.func12, Tryz.ntmps12
  go_upto_region 1 with (fail)
  rw [← HR.out.1, ← HR.out.2]
  refine wp_region_itemsJW rfl (fun w' => w'.cell? ⟨B, 3, none⟩ = some (.slice fa N fc)) [.one 0 .p, .one 1 .p, .one 2 .p, .one 3 .s, .one 4 .p, .one 5 .p, .one 6 .p, .one 7 .p, .one 9 .p, .grp true [(8, []), (10, [11, 12]), (13, [])], .one 14 (.e false)] (by kernel_rfl) ?_
  (repeat ((first | (refine J_p (v := ?_) rfl rfl (fun w' => ?_) ?_; rotate_left; (go_simp; with_reducible rfl)) | (refine J_s (v := ?_) rfl rfl hS0 (fun w' hS => ?_) ?_; rotate_left; ((try dsimp only at hS); go_simp; with_reducible rfl)) | (refine J_t (v := ?_) rfl rfl ?_ ?_; rotate_left; (go_simp; with_reducible rfl)) | (refine J_po rfl rfl ?_) | (refine J_so rfl rfl hS0 ?_) | (refine J_to rfl rfl ?_)); simp only [Act.put, List.setIfInBounds_toArray, List.set_cons_zero, List.set_cons_succ]))
  have hw5 : IntKind.i64.wrap (5 * (N : Int)) = 5 * (N : Int) := by unfold IntKind.wrap; simp [IntKind.bits, IntKind.signed]; omega
  have hwa : IntKind.i64.wrap (1 + a2) = 1 + a2 := by unfold IntKind.wrap; simp [IntKind.bits, IntKind.signed]; omega
  rw [hw5, hmod]
  refine wpJ_threads' (W := W) (A := fr) [⟨[(8, []), (10, [11, 12])], twoA (sep (mkr B va (i : Int) day (.slice fa N fc)) (kn I)) (sep (mkr B va ((i + 1 : Nat) : Int) day (.slice fa N fc)) (kn I)) (sep (mkr B va ((i + 1 + 1 : Nat) : Int) day (.slice fa N fc)) (kn I)) (.int .i64 a1) (.int .i64 a2) [.int .i64 (1 + a2), .agg (FilZ N a1 (1 + a2) (-1) Sv.none Sv.none Sv.none).cells.toArray]⟩, ⟨[(13, [])], tailA emp ptrIs (fun g => blk g (.cells #[.int .i64 0, .int .i64 0, .int .i64 0, .int .i64 0, .int .i64 0, .int .i64 0, .int .i64 0, .int .i64 0, .int .i64 0, .int .i64 0, .int .i64 0, .slice none 0 0, .slice none 0 0, .slice none 0 0, .slice none 0 0, .int .i64 0, .int .i64 0, .slice none 0 0, .slice none 0 0] 37 (0, 0))) (fun _ => [])⟩]
    (fun _ => ⟨_, List.mem_cons_self, twoA_S (fun w X h => (show Sat W w (sep (blk B (.cells #[va, .int .i64 (i : Int), .int .i64 day, .slice fa N fc] 45 (0, 0))) (sep (kn I) X)) from by rw [sep_assoc] at h; exact h).cell 3) (fun w X h => (show Sat W w (sep (blk B (.cells #[va, .int .i64 ((i + 1 : Nat) : Int), .int .i64 day, .slice fa N fc] 45 (0, 0))) (sep (kn I) X)) from by rw [sep_assoc] at h; exact h).cell 3) (fun w X h => (show Sat W w (sep (blk B (.cells #[va, .int .i64 ((i + 1 + 1 : Nat) : Int), .int .i64 day, .slice fa N fc] 45 (0, 0))) (sep (kn I) X)) from by rw [sep_assoc] at h; exact h).cell 3)⟩) (by kernel_rfl) ?_ ?_ ?_
  · intro t ht
    simp only [List.mem_cons, List.not_mem_nil, or_false] at ht
    rcases ht with rfl | rfl
    · refine goodG_two2 (di := some 19) (dj := some 21) rfl rfl rfl (by intro cs b h; cases h) rfl (by intro cs b h; cases h) (by kernel_rfl) (doesCall rfl 11 #[.pointer (some ⟨B, 0, none⟩), .int .i64 2] (fun w' => ?_) C1.out) (doesCall rfl 11 #[.pointer (some ⟨B, 0, none⟩), .int .i64 2] (fun w' => ?_) C2.out) (fun _ => rfl) (by kernel_rfl) ?_
      · (go_simp; try rfl)
      · (go_simp; try rfl)
      · refine ⟨⟨_, rfl, fun w' => ?_⟩, ?_⟩
        · simp only [Act.put, List.setIfInBounds_toArray, List.set_cons_zero, List.set_cons_succ]
          go_simp
          try rw [hwa]
        · change purS _ _ (Act.put _ (some 22) _) _ _
          simp only [Act.put, List.setIfInBounds_toArray, List.set_cons_zero, List.set_cons_succ]
          refine ⟨⟨_, rfl, fun w' => ?_⟩, trivial⟩
          (go_simp; try rfl)
    · refine goodG_tail rfl (by intro cs b h; cases h) (doesAlloc rfl (fun w' => ?_)) rfl ?_
      · (go_simp; try rfl)
      · intro _ _ _; trivial
  · show Sat W w1.drew (sep emp (sep (sep (mkr B va (i : Int) day (.slice fa N fc)) (kn I)) fr))
    rw [emp_sep, sep_assoc]
    exact H2.out
  · intro dn1 h1 dn2 h2 w7 h7
    obtain ⟨rfl, h8⟩ := twoA_done h1 rfl h7.p1
    obtain ⟨v10, q, rfl, hg, h9⟩ := tailA_done h2 (fun _ => rfl) h8.p1
    unfold ptrIs at hg
    subst hg
    have h10 : Sat W w7 (sep (blk q (.cells #[.int .i64 0, .int .i64 0, .int .i64 0, .int .i64 0, .int .i64 0, .int .i64 0, .int .i64 0, .int .i64 0, .int .i64 0, .int .i64 0, .int .i64 0, .slice none 0 0, .slice none 0 0, .slice none 0 0, .slice none 0 0, .int .i64 0, .int .i64 0, .slice none 0 0, .slice none 0 0] 37 (0, 0))) (sep (mkr B va ((i + 1 + 1 : Nat) : Int) day (.slice fa N fc)) (sep (kn I) fr))) := by
      have h10 := h9
      simpa only [sep_comm, sep_lcomm, sep_assoc] using h10
    have hst := run_stAct h10.blk_heap rfl (FilZ N a1 (1 + a2) (-1) Sv.none Sv.none Sv.none)
    have h11 := h10.setRow (FilZ N a1 (1 + a2) (-1) Sv.none Sv.none Sv.none).cells.toArray
    obtain ⟨w8, hw8⟩ : ∃ w8, w8 = w7.setRow q (FilZ N a1 (1 + a2) (-1) Sv.none Sv.none Sv.none).cells.toArray := ⟨_, rfl⟩
    rw [← hw8] at hst h11
    change wpJ _ _ _ _ _ _ (((((Act.put _ (some 19) (.int .i64 a1)).put (some 21) (.int .i64 a2)).put (some 22) (.int .i64 (1 + a2))).put (some 23) (.agg (FilZ N a1 (1 + a2) (-1) Sv.none Sv.none Sv.none).cells.toArray)).put (some 3) (.pointer (some ⟨q, 0, none⟩))) _
    simp only [Act.put, List.setIfInBounds_toArray, List.set_cons_zero, List.set_cons_succ]
    have H11 := Lib.hid h11
    clear h1 h2 h7 h8 h9 h10 h11 hw8 H2 C1 C2 hS0 hw5 hwa
    (refine J_e rfl rfl (fun K hK => ?_); go_simp)
    (refine hK _ _ (fun h => by cases h) ?_; clear hK K; (try simp only [Act.put, List.setIfInBounds_toArray, List.set_cons_zero, List.set_cons_succ]))
    refine J_nil ?_
    clear hst
    obtain ⟨p1, hp1⟩ : ∃ z, z = 1 + a2 := ⟨_, rfl⟩
    rw [← hp1] at H11 ⊢
    have HP1 : Hid ((a1 = 0 ∨ a1 = 1) ∧ (p1 = 1 ∨ p1 = 2)) := Lib.hid (by omega)
    clear hb1 hb2 hp1
    obtain ⟨i2, hi2⟩ : ∃ z, z = i + 1 + 1 := ⟨_, rfl⟩
    rw [← hi2] at H11
    have HI2 := Lib.hid hi2
    have HI8 : Hid (i < 800000) := HI
    clear hi2 hmod
    -- how many descriptions
    have hb3 := pickA_bd l i2 2 (by omega)
    obtain ⟨a3, ha3⟩ : ∃ z, z = pickA l i2 2 := ⟨_, rfl⟩
    have HN3 := Lib.hid (next_spec va l i2 2 (by omega) (by omega) (by have := HI2.out; have := HI.out; omega) HV.out (show Sat W w8 (sep (mkr B va (i2 : Int) day (.slice fa N fc)) (sep (kn I) (sep (blk q (.cells (FilZ N a1 p1 (-1) Sv.none Sv.none Sv.none).cells.toArray 37 (0, 0))) fr))) from by have h9 := H11.out; simpa only [sep_comm, sep_lcomm, sep_assoc] using h9))
    rw [← ha3] at hb3 HN3
    obtain ⟨m0, rfl⟩ : ∃ z : Nat, a3 = (z : Int) := ⟨a3.toNat, by omega⟩
    obtain ⟨m, hm⟩ : ∃ m : Nat, m = 1 + m0 := ⟨_, rfl⟩
    have hmz : 1 + (m0 : Int) = (m : Int) := by omega
    have hm3 : (m : Int) ≤ 2 := by omega
    have HM : Hid (1 ≤ m ∧ m ≤ 2) := Lib.hid (by omega)
    have hm0 : (m0 : Int) < 2 := by omega
    clear ha3 hb3 hm H11
    go_wp2_with fail
    refine HN3.out.mono ?_
    rintro e w9 ⟨rfl, h9⟩
    have HS9 := Lib.hid h9
    clear h9 HN3
    go_upto_block 0 with (fail)
    go_cut [5] from 10 (fun iv wx => ∃ (sd : Sv) (fs : List Fm) (J : Mem) (pos : Nat), Hid ((rF.slice 4).rel J [.slice sd.a sd.n sd.c] fs ∧ 1 ≤ fs.length ∧ fs.length ≤ 2 ∧ (∀ f ∈ fs, GoodF f) ∧ Mem.le I J ∧ i2 + 1 ≤ pos ∧ pos ≤ i2 + 3 ∧ Sat W wx (sep (mkr B va (pos : Int) day (.slice fa N fc)) (sep (kn J) (sep (blk q (.cells (FilZ N a1 p1 (-1) sd Sv.none Sv.none).cells.toArray 37 (0, 0))) fr)))))
    case first =>
     as_aux_lemma =>
      /-DEV1-/
      clear HR HFR HFL HP1 hm0 hmz HI
      go_wp2_with fail
      go_loopw [5] (fun iv wr => ∃ (x n c pos : Nat) (a : Option Addr) (vs : List Value) (fs : List Fm) (J : Mem), iv = .int .i64 x ∧ x ≤ m ∧ Hid (n = x ∧ fs.length = x ∧ Mem.le I J ∧ (rF.rows 4).rel J vs fs ∧ (∀ f ∈ fs, GoodF f) ∧ i2 + 1 ≤ pos ∧ pos ≤ i2 + 1 + x ∧ Sat W wr (sep (osl 35 4 a n c vs) (sep (mkr B va (pos : Int) day (.slice fa N fc)) (sep (kn J) (sep (blk q (.cells (FilZ N a1 p1 (-1) ⟨a, n, c⟩ Sv.none Sv.none).cells.toArray 37 (0, 0))) fr)))))) (fun iv _ => 3 - (intOf iv).toNat)
      case atStart => exact ⟨0, 0, 0, i2 + 1, none, [], [], I, rfl, by omega, Lib.hid ⟨rfl, rfl, Mem.le_refl _, ⟨[], rfl, trivial⟩, (by intro f hf; cases hf), by omega, by omega, HS9.out.osl_nil 35 4⟩⟩
      case round =>
        obtain ⟨x, n, c, pos, a, vs, fs, J, rfl, hxm, HL⟩ := hrel
        by_cases hlt : x < m
        · have hltz : (x : Int) < (m : Int) := by omega
          have hx2z : (x : Int) < 2 := by omega
          have hd := HL.out.2.2.2.2.2.2.2.drew
          have HFE := Lib.hid (feature_ok va l pos (by have := HL.out.2.2.2.2.2.2.1; have := HI2.out; have := HI8.out; omega) (HV.out.mono HL.out.2.2.1) (show Sat W wr.drew (sep (mkr B va (pos : Int) day (.slice fa N fc)) (sep (kn J) (sep (osl 35 4 a n c vs) (sep (blk q (.cells (FilZ N a1 p1 (-1) ⟨a, n, c⟩ Sv.none Sv.none).cells.toArray 37 (0, 0))) fr)))) from by
            have h9 := hd
            simpa only [sep_comm, sep_lcomm, sep_assoc] using h9))
          have hS0 : wr.drew.cell? ⟨q, 11, none⟩ = some (.slice a n c) := (show Sat W wr.drew (sep (blk q (.cells (FilZ N a1 p1 (-1) ⟨a, n, c⟩ Sv.none Sv.none).cells.toArray 37 (0, 0))) (sep (mkr B va (pos : Int) day (.slice fa N fc)) (sep (kn J) (sep (osl 35 4 a n c vs) fr)))) from by
            have h9 := hd
            simpa only [sep_comm, sep_lcomm, sep_assoc] using h9).cell 11
          clear hd hlt hxm
          go_upto_region 6 with (fail)
          refine wp_region_canon rfl (fun w' => w'.cell? ⟨q, 11, none⟩ = some (.slice a n c)) [(0, .p), (1, .p), (2, .s), (3, .p), (4, .e true), (5, .e true), (6, .e false), (7, .p), (8, .p), (9, .e false)] (by kernel_rfl) ?_
          (repeat ((first | (refine C_p (v := ?_) rfl rfl (fun w' => ?_) ?_; rotate_left; (go_simp; with_reducible rfl)) | (refine C_s (v := ?_) rfl rfl hS0 (fun w' hS => ?_) ?_; rotate_left; ((try dsimp only at hS); go_simp; with_reducible rfl)) | (refine C_t (v := ?_) rfl rfl ?_ ?_; rotate_left; (go_simp; with_reducible rfl)) | (refine C_po rfl rfl ?_) | (refine C_so rfl rfl hS0 ?_) | (refine C_to rfl rfl ?_)); simp only [Act.put, List.setIfInBounds_toArray, List.set_cons_zero, List.set_cons_succ]))
          (refine C_e rfl rfl (fun K hK => ?_); go_simp)
          refine HFE.out.mono ?_
          rintro e w2 ⟨f, fo, fn, fi, fk, J2, rfl, hgf, hle2, hrF, h2⟩
          have h3 : Sat W w2 (sep (blk q (.cells (FilZ N a1 p1 (-1) ⟨a, n, c⟩ Sv.none Sv.none).cells.toArray 37 (0, 0))) (sep (osl 35 4 a n c vs) (sep (mkr B va ((pos + 1 : Nat) : Int) day (.slice fa N fc)) (sep (kn J2) fr)))) := by
            have h9 := h2
            simpa only [sep_comm, sep_lcomm, sep_assoc] using h9
          have H3 := Lib.hid h3
          have HG := Lib.hid (And.intro hgf (And.intro hle2 hrF))
          clear h2 hgf hle2 hrF HFE hS0
          (refine hK _ _ (fun _ => h3.cell 11) ?_; clear hK K; (try simp only [Act.put, List.setIfInBounds_toArray, List.set_cons_zero, List.set_cons_succ]))
          have hS0 : w2.cell? ⟨q, 11, none⟩ = some (.slice a n c) := h3.cell 11
          clear h3
          (repeat ((first | (refine C_p (v := ?_) rfl rfl (fun w' => ?_) ?_; rotate_left; (go_simp; with_reducible rfl)) | (refine C_s (v := ?_) rfl rfl hS0 (fun w' hS => ?_) ?_; rotate_left; ((try dsimp only at hS); go_simp; with_reducible rfl)) | (refine C_t (v := ?_) rfl rfl ?_ ?_; rotate_left; (go_simp; with_reducible rfl)) | (refine C_po rfl rfl ?_) | (refine C_so rfl rfl hS0 ?_) | (refine C_to rfl rfl ?_)); simp only [Act.put, List.setIfInBounds_toArray, List.set_cons_zero, List.set_cons_succ]))
          (refine C_e rfl rfl (fun K hK => ?_); go_simp)
          (refine hK _ _ (fun _ => (H3.out.alloc0 _).cell 11) ?_; clear hK K; (try simp only [Act.put, List.setIfInBounds_toArray, List.set_cons_zero, List.set_cons_succ]))
          refine C_e rfl rfl (fun K hK => ?_)
          refine wp_append_osl (.tmp 34) (.tmp 37) 28 rfl 35 4 64 _ Tryz.underlying28 infoFm rfl rfl (H3.out.alloc0 _).p1 rfl [.int .i64 fo, .int .i64 fn, .slice fi.a fi.n fi.c, .slice fk.a fk.n fk.c] rfl (by simp) (by intro b hb; cases hb; exact new_src _ _ _) (rF_one HG.out.2.2) (by have := HL.out.1; omega) (by unfold maxLen; have := HL.out.1; omega) ?_
          intro a2 c2 w3 h4
          (refine hK _ _ (fun h => by cases h) ?_; clear hK K; (try simp only [Act.put, List.setIfInBounds_toArray, List.set_cons_zero, List.set_cons_succ]))
          (repeat ((first | (refine C_p (v := ?_) rfl rfl (fun w' => ?_) ?_; rotate_left; (go_simp; with_reducible rfl)) | (refine C_s (v := ?_) rfl rfl hS0 (fun w' hS => ?_) ?_; rotate_left; ((try dsimp only at hS); go_simp; with_reducible rfl)) | (refine C_t (v := ?_) rfl rfl ?_ ?_; rotate_left; (go_simp; with_reducible rfl)) | (refine C_po rfl rfl ?_) | (refine C_so rfl rfl hS0 ?_) | (refine C_to rfl rfl ?_)); simp only [Act.put, List.setIfInBounds_toArray, List.set_cons_zero, List.set_cons_succ]))
          have h5 := h4.p1
          have q1 : w3.cell? ⟨q, 11, none⟩ = some (.slice a n c) := h5.cell 11
          have q2 := h5.unfrozen 11
          have h6 := h5.setCell 11 (.slice a2 (n + 1) c2)
          have H6 := Lib.hid h6
          clear h4 h5 h6 H3 hS0
          (refine C_e rfl rfl (fun K hK => ?_); go_simp)
          (refine hK _ _ (fun h => by cases h) ?_; clear hK K; (try simp only [Act.put, List.setIfInBounds_toArray, List.set_cons_zero, List.set_cons_succ]))
          (repeat ((first | (refine C_p (v := ?_) rfl rfl (fun w' => ?_) ?_; rotate_left; (go_simp; with_reducible rfl)) | (refine C_s (v := ?_) rfl rfl hS0 (fun w' hS => ?_) ?_; rotate_left; ((try dsimp only at hS); go_simp; with_reducible rfl)) | (refine C_t (v := ?_) rfl rfl ?_ ?_; rotate_left; (go_simp; with_reducible rfl)) | (refine C_po rfl rfl ?_) | (refine C_so rfl rfl hS0 ?_) | (refine C_to rfl rfl ?_)); simp only [Act.put, List.setIfInBounds_toArray, List.set_cons_zero, List.set_cons_succ]))
          refine C_nil ?_
          go_wp2
          go_roundw
          case rel =>
            obtain ⟨hn, hlen, hle, hrows, hg, hp1, hp2, -⟩ := HL.out
            refine ⟨x + 1, n + 1, c2, pos + 1, a2, vs ++ [.int .i64 fo, .int .i64 fn, .slice fi.a fi.n fi.c, .slice fk.a fk.n fk.c], fs ++ [f], J2, by go_num, by omega, Lib.hid ⟨by omega, by simp [hlen], Mem.le_trans hle HG.out.2.1, rows_snoc ((rF.rows 4).mono HG.out.2.1 hrows) HG.out.2.2 rfl, ?_, by omega, by omega, ?_⟩⟩
            · intro g hgm
              rcases List.mem_append.1 hgm with h | h
              · exact hg g h
              · rw [List.mem_singleton.1 h]; exact HG.out.1
            · have h9 := H6.out
              have e9 : ((FilZ N a1 p1 (-1) ⟨a, n, c⟩ Sv.none Sv.none).cells.toArray.setIfInBounds 11 (.slice a2 (n + 1) c2)) = (FilZ N a1 p1 (-1) ⟨a2, n + 1, c2⟩ Sv.none Sv.none).cells.toArray := by simp [FilZ, Ac.cells]
              rw [e9] at h9
              simpa only [sep_comm, sep_lcomm, sep_assoc] using h9
          case measure => simp [intOf]; omega
        · have hxe : x = m := by omega
          have hltz : ¬ (x : Int) < (m : Int) := by omega
          have HXE := Lib.hid hxe
          clear hxe hlt hxm
          go_wp2
          go_meet
          case rel =>
            obtain ⟨hn, hlen, hle, hrows, hg, hp1, hp2, hS⟩ := HL.out
            have hsw := hS.swf_of_osl
            have hxe := HXE.out
            have hM := HM.out
            obtain ⟨J', hle', hJ', h9⟩ := (show Sat W wr (sep (rsl a vs) (sep (kn J) (sep (mkr B va (pos : Int) day (.slice fa N fc)) (sep (blk q (.cells (FilZ N a1 p1 (-1) ⟨a, n, c⟩ Sv.none Sv.none).cells.toArray 37 (0, 0))) fr)))) from by
              have h9 := hS.osl_settle
              simpa only [sep_comm, sep_lcomm, sep_assoc] using h9).learn
            exact ⟨⟨a, n, c⟩, fs, J', pos, Lib.hid ⟨⟨a, c, vs, by rw [hn, hlen], by rw [hlen, ← hn]; exact hsw, hJ', (rF.rows 4).mono hle' hrows⟩, by omega, by omega, hg, Mem.le_trans hle hle', hp1, by omega, h9.p1⟩⟩
      /-VED1-/
    case rest =>
     as_aux_lemma =>
      obtain ⟨sd, fs, J, pos, HC⟩ := hcut
      have HCL := Lib.hid (claims_ok va l pos (by have := HC.out.2.2.2.2.2.2.1; have := HI2.out; have := HI.out; omega) (HV.out.mono HC.out.2.2.2.2.1) HC.out.2.2.2.2.2.2.2)
      go_wp2_with fail
      refine HCL.out.mono ?_
      rintro e w2 ⟨cl, ca, cn, cc, J2, pos2, rfl, hgc, hle2, hrc, hp1, hp2, h2⟩
      have h3 : Sat W w2 (sep (blk q (.cells (FilZ N a1 p1 (-1) sd Sv.none Sv.none).cells.toArray 37 (0, 0))) (sep (mkr B va (pos2 : Int) day (.slice fa N fc)) (sep (kn J2) fr))) := by
        have h9 := h2
        simpa only [sep_comm, sep_lcomm, sep_assoc] using h9
      have q1 : w2.cell? ⟨q, 12, none⟩ = some (.slice none 0 0) := h3.cell 12
      have q2 := h3.unfrozen 12
      obtain ⟨w3, hw3⟩ : ∃ w3, w3 = w2.setCell ⟨q, 12, none⟩ (.slice ca cn cc) := ⟨_, rfl⟩
      have h4 := h3.setCell 12 (.slice ca cn cc)
      have e9 : ((FilZ N a1 p1 (-1) sd Sv.none Sv.none).cells.toArray.setIfInBounds 12 (.slice ca cn cc)) = (FilZ N a1 p1 (-1) sd ⟨ca, cn, cc⟩ Sv.none).cells.toArray := by simp [FilZ, Ac.cells]
      rw [e9, ← hw3] at h4
      have hfc : w3.cell? ⟨B, 3, none⟩ = some (.slice fa N fc) := (show Sat W w3 (sep (blk B (.cells #[va, .int .i64 (pos2 : Int), .int .i64 day, .slice fa N fc] 45 (0, 0))) (sep (blk q (.cells (FilZ N a1 p1 (-1) sd ⟨ca, cn, cc⟩ Sv.none).cells.toArray 37 (0, 0))) (sep (kn J2) fr))) from h4.p1).cell 3
      have HW3 := Lib.hid hw3
      have HG : Hid (Mem.le I J2 ∧ (rF.slice 4).rel J2 [.slice sd.a sd.n sd.c] fs ∧ (rCl.slice 5).rel J2 [.slice ca cn cc] cl ∧ GoodT fs cl ∧ i ≤ pos2 ∧ pos2 ≤ i + 30) := Lib.hid ⟨Mem.le_trans HC.out.2.2.2.2.1 hle2, (rF.slice 4).mono hle2 HC.out.1, hrc, ⟨HC.out.2.1, HC.out.2.2.1, HC.out.2.2.2.1, hgc⟩, by have := HC.out.2.2.2.2.2.1; have := HI2.out; omega, by have := HC.out.2.2.2.2.2.2.1; have := HI2.out; omega⟩
      have H4 : Hid (Sat W w3 (sep (mkr B va (pos2 : Int) day (.slice fa N fc)) (sep (kn J2) (sep (blk q (.cells (FilZ N a1 p1 (-1) sd ⟨ca, cn, cc⟩ Sv.none).cells.toArray 37 (0, 0))) fr)))) := Lib.hid (by have h9 := h4; simpa only [sep_comm, sep_lcomm, sep_assoc] using h9)
      clear h2 h3 h4 hw3 e9 hgc hle2 hrc hp1 hp2 HCL HC HS9 hm3 hmz hm0
      go_upto_region 8 with (fail)
      rw [← HW3.out]
      go_upto_region 9 with (fail)
      clear q1 q2 hfc HW3
      obtain ⟨tcv, htcv⟩ : ∃ z : Sv, z = ⟨ca, cn, cc⟩ := ⟨_, rfl⟩
      rw [← htcv] at H4
      have HTC := Lib.hid htcv
      clear htcv
      go_cut [56] from 50 (fun bv wx => ∃ (bb : Bool) (pos : Nat), bv = .bool bb ∧ (bb = true → 0 < N) ∧ Hid (i ≤ pos ∧ pos ≤ i + 31 ∧ Sat W wx (sep (mkr B va (pos : Int) day (.slice fa N fc)) (sep (kn J2) (sep (blk q (.cells (FilZ N a1 p1 (-1) sd tcv Sv.none).cells.toArray 37 (0, 0))) fr)))))
      case first =>
       as_aux_lemma =>
        /-DEV2-/
        by_cases hN0 : N = 0
        · have hN0z : ¬ (0 : Int) < (N : Int) := by omega
          clear hN0
          go_wp2
          go_meet
          case rel => exact ⟨false, pos2, rfl, (by intro h; cases h), Lib.hid ⟨HG.out.2.2.2.2.1, by have := HG.out.2.2.2.2.2; omega, H4.out⟩⟩
        · have hN1 : (0 : Int) < (N : Int) := by omega
          have HN5 := Lib.hid (next_spec va l pos2 3 (by omega) (by omega) (by have := HG.out.2.2.2.2.2; have := HI.out; omega) (HV.out.mono HG.out.1) H4.out)
          obtain ⟨z5, hz5⟩ : ∃ z, z = pickA l pos2 3 := ⟨_, rfl⟩
          rw [← hz5] at HN5
          obtain ⟨t5, ht5⟩ : ∃ b, (z5 == 0) = b := ⟨_, rfl⟩
          have HN1 := Lib.hid hN1
          clear hN0 hz5
          go_wp2_with fail
          refine HN5.out.mono ?_
          rintro e w6 ⟨rfl, h6⟩
          have H6 := Lib.hid h6
          clear h6 HN5
          go_wp2
          go_meet
          case rel => exact ⟨t5, pos2 + 1, rfl, (fun _ => by have := HN1.out; omega), Lib.hid ⟨by have := HG.out.2.2.2.2.1; omega, by have := HG.out.2.2.2.2.2; omega, H6.out⟩⟩
        /-VED2-/
      case rest =>
       as_aux_lemma =>
        obtain ⟨bb, pos, rfl, hbN, HC⟩ := hcut
        clear H4
        go_upto_if 56 with (fail)
        go_cut [] from 57 (fun wx => ∃ (o p2 q0 : Int) (s t : Sv) (fs : List Fm) (cl : List Cl) (J : Mem) (pos : Nat), Hid ((o = 0 ∨ o = 1) ∧ (p2 = 1 ∨ p2 = 2) ∧ (q0 = -1 ∨ FileB N q0) ∧ (rF.slice 4).rel J [s.v] fs ∧ (rCl.slice 5).rel J [t.v] cl ∧ GoodT fs cl ∧ Mem.le I J ∧ i ≤ pos ∧ pos ≤ i + 40 ∧ Sat W wx (sep (mkr B va (pos : Int) day (.slice fa N fc)) (sep (kn J) (sep (blk q (.cells (FilZ N o p2 q0 s t Sv.none).cells.toArray 37 (0, 0))) fr)))))
        case first =>
         as_aux_lemma =>
          /-DEV3-/
          cases bb with
          | false =>
            go_wp2
            go_meet
            case rel => exact ⟨a1, p1, -1, sd, tcv, fs, cl, J2, pos, Lib.hid ⟨HP1.out.1, HP1.out.2, .inl rfl, HG.out.2.1, by rw [HTC.out]; exact HG.out.2.2.1, HG.out.2.2.2.1, HG.out.1, HC.out.1, by have := HC.out.2.1; omega, HC.out.2.2⟩⟩
          | true =>
            have hN1 : 0 < N := hbN rfl
            have hNz0 : (0 : Int) < (N : Int) := by omega
            have hC := HC.out.2.2
            rw [HFR.out] at hC
            have hC2 : Sat W wc (sep (osl 37 19 fa N fc (acs zs)) (sep (mkr B va (pos : Int) day (.slice fa N fc)) (sep (kn J2) (sep (blk q (.cells (FilZ N a1 p1 (-1) sd tcv Sv.none).cells.toArray 37 (0, 0))) (sep (blk R (.cells #[.int .i64 0, .int .i64 0, .int .i64 0, .int .i64 0, .int .i64 0, .int .i64 0, .int .i64 0, .int .i64 0, .int .i64 0, .int .i64 0, .int .i64 0, .slice none 0 0, .slice none 0 0, .slice none 0 0, .slice none 0 0, .int .i64 0, .int .i64 0, .slice none 0 0, .slice none 0 0] 37 (0, 0))) A))))) := by
              have h9 := hC
              simpa only [sep_comm, sep_lcomm, sep_assoc] using h9
            obtain ⟨g, rfl⟩ : ∃ g, fa = some ⟨g, 0, none⟩ := by
              rcases hC2.osl_cases with ⟨-, h0, -⟩ | ⟨g, cur, rfl, -⟩
              · omega
              · exact ⟨g, rfl⟩
            have hS0 : wc.drew.cell? ⟨B, 3, none⟩ = some (.slice (some ⟨g, 0, none⟩) N fc) := (show Sat W wc.drew (sep (blk B (.cells #[va, .int .i64 (pos : Int), .int .i64 day, .slice (some ⟨g, 0, none⟩) N fc] 45 (0, 0))) (sep (osl 37 19 (some ⟨g, 0, none⟩) N fc (acs zs)) (sep (kn J2) (sep (blk q (.cells (FilZ N a1 p1 (-1) sd tcv Sv.none).cells.toArray 37 (0, 0))) (sep (blk R (.cells #[.int .i64 0, .int .i64 0, .int .i64 0, .int .i64 0, .int .i64 0, .int .i64 0, .int .i64 0, .int .i64 0, .int .i64 0, .int .i64 0, .int .i64 0, .slice none 0 0, .slice none 0 0, .slice none 0 0, .slice none 0 0, .int .i64 0, .int .i64 0, .slice none 0 0, .slice none 0 0] 37 (0, 0))) A))))) from hC2.p1.drew).cell 3
            have HTH : Hid (Sat W wc.drew (sep (sep (mkr B va (pos : Int) day (.slice (some ⟨g, 0, none⟩) N fc)) (sep (kn J2) (osl 37 19 (some ⟨g, 0, none⟩) N fc (acs zs)))) (sep (blk q (.cells (FilZ N a1 p1 (-1) sd tcv Sv.none).cells.toArray 37 (0, 0))) (sep (blk R (.cells #[.int .i64 0, .int .i64 0, .int .i64 0, .int .i64 0, .int .i64 0, .int .i64 0, .int .i64 0, .int .i64 0, .int .i64 0, .int .i64 0, .int .i64 0, .slice none 0 0, .slice none 0 0, .slice none 0 0, .slice none 0 0, .int .i64 0, .int .i64 0, .slice none 0 0, .slice none 0 0] 37 (0, 0))) A)))) := Lib.hid (by
              have h9 := hC2.drew
              simpa only [sep_comm, sep_lcomm, sep_assoc] using h9)
            have HPB : pos < 1000000 := by have := HC.out.2.1; have := HI.out; omega
            have HLE := HG.out.1
            clear hC hC2 hbN
            go_upto_region 10 with (fail)
            have hb6 := pickA_bd l pos N (by omega)
            obtain ⟨r0, hr0⟩ : ∃ z, z = pickA l pos N := ⟨_, rfl⟩
            rw [← hr0] at hb6
            obtain ⟨r, rfl⟩ : ∃ z : Nat, r0 = (z : Int) := ⟨r0.toNat, by omega⟩
            have hrN : r < N := by omega
            have hrz : (r : Int) < (N : Int) := by omega
            have hrl : r < zs.length := by have := HNN.out; omega
            obtain ⟨zr, hzr⟩ : ∃ z, z = zs[r] := ⟨_, rfl⟩
            have HZR : Hid (FilAt I N zr ∧ zs[r]? = some zr) := Lib.hid ⟨by rw [hzr]; exact HFL.out _ (List.getElem_mem hrl), by rw [hzr]; exact List.getElem?_eq_getElem hrl⟩
            have HC6 : Hid (∀ (w0 : World) (A0 : Assn), Sat W w0 (sep (sep (mkr B va (pos : Int) day (.slice (some ⟨g, 0, none⟩) N fc)) (sep (kn J2) (osl 37 19 (some ⟨g, 0, none⟩) N fc (acs zs)))) A0) → Calls Tryz.prog 11 #[.pointer (some ⟨B, 0, none⟩), .int .i64 N] w0 fun e w' => ∃ v, e = .returned v ∧ Sat W w' (sep (sep (fact (v = .int .i64 (r : Int))) (sep (mkr B va ((pos + 1 : Nat) : Int) day (.slice (some ⟨g, 0, none⟩) N fc)) (sep (kn J2) (osl 37 19 (some ⟨g, 0, none⟩) N fc (acs zs))))) A0)) := Lib.hid (by
              intro w0 A0 h0
              have hlt9 : pos < 1000000 := HPB
              refine (next_spec va l pos N (by omega) (by omega) hlt9 (HV.out.mono HLE) (show Sat W w0 (sep (mkr B va (pos : Int) day (.slice (some ⟨g, 0, none⟩) N fc)) (sep (kn J2) (sep (osl 37 19 (some ⟨g, 0, none⟩) N fc (acs zs)) A0))) from by rw [sep_assoc, sep_assoc] at h0; exact h0)).mono ?_
              rintro e w' ⟨rfl, h3⟩
              refine ⟨_, rfl, ?_⟩
              rw [sep_assoc]
              refine Sat.fact.2 ⟨by rw [hr0], ?_⟩
              rw [sep_assoc, sep_assoc]
              exact h3)
            clear hr0 hb6 hzr
            refine wp_region_itemsJW rfl (fun w' => w'.cell? ⟨B, 3, none⟩ = some (.slice (some ⟨g, 0, none⟩) N fc)) [.one 0 .p, .one 1 .p, .one 2 .p, .one 3 .s, .one 4 .p, .one 5 .p, .grp true [(6, [7]), (8, []), (9, [])], .one 10 (.e false)] (by kernel_rfl) ?_
            (repeat ((first | (refine J_p (v := ?_) rfl rfl (fun w' => ?_) ?_; rotate_left; (go_simp; with_reducible rfl)) | (refine J_s (v := ?_) rfl rfl hS0 (fun w' hS => ?_) ?_; rotate_left; ((try dsimp only at hS); go_simp; with_reducible rfl)) | (refine J_t (v := ?_) rfl rfl ?_ ?_; rotate_left; (go_simp; with_reducible rfl)) | (refine J_po rfl rfl ?_) | (refine J_so rfl rfl hS0 ?_) | (refine J_to rfl rfl ?_)); simp only [Act.put, List.setIfInBounds_toArray, List.set_cons_zero, List.set_cons_succ]))
            refine wpJ_threads' (W := W) (A := (sep (blk q (.cells (FilZ N a1 p1 (-1) sd tcv Sv.none).cells.toArray 37 (0, 0))) (sep (blk R (.cells #[.int .i64 0, .int .i64 0, .int .i64 0, .int .i64 0, .int .i64 0, .int .i64 0, .int .i64 0, .int .i64 0, .int .i64 0, .int .i64 0, .int .i64 0, .slice none 0 0, .slice none 0 0, .slice none 0 0, .slice none 0 0, .int .i64 0, .int .i64 0, .slice none 0 0, .slice none 0 0] 37 (0, 0))) A))) [⟨[(6, [7]), (8, [])], clA (sep (mkr B va (pos : Int) day (.slice (some ⟨g, 0, none⟩) N fc)) (sep (kn J2) (osl 37 19 (some ⟨g, 0, none⟩) N fc (acs zs)))) (sep (mkr B va ((pos + 1 : Nat) : Int) day (.slice (some ⟨g, 0, none⟩) N fc)) (sep (kn J2) (osl 37 19 (some ⟨g, 0, none⟩) N fc (acs zs)))) (sep (mkr B va ((pos + 1 : Nat) : Int) day (.slice (some ⟨g, 0, none⟩) N fc)) (sep (kn J2) (osl 37 19 (some ⟨g, 0, none⟩) N fc (acs zs)))) (.int .i64 r) (.pointer (some ⟨g, r * 19, none⟩)) (.agg zr.cells.toArray)⟩, ⟨[(9, [])], tailA emp ptrIs (fun g => blk g (.cells #[.int .i64 0, .int .i64 0, .int .i64 0, .int .i64 0, .int .i64 0, .int .i64 0, .int .i64 0, .int .i64 0, .int .i64 0, .int .i64 0, .int .i64 0, .slice none 0 0, .slice none 0 0, .slice none 0 0, .slice none 0 0, .int .i64 0, .int .i64 0, .slice none 0 0, .slice none 0 0] 37 (0, 0))) (fun _ => [])⟩]
              (fun _ => ⟨_, List.mem_cons_self, clA_S (fun w X h => (show Sat W w (sep (blk B (.cells #[va, .int .i64 (pos : Int), .int .i64 day, .slice (some ⟨g, 0, none⟩) N fc] 45 (0, 0))) (sep (sep (kn J2) (osl 37 19 (some ⟨g, 0, none⟩) N fc (acs zs))) X)) from by rw [sep_assoc] at h; exact h).cell 3) (fun w X h => (show Sat W w (sep (blk B (.cells #[va, .int .i64 (((pos + 1 : Nat) : Int) : Int), .int .i64 day, .slice (some ⟨g, 0, none⟩) N fc] 45 (0, 0))) (sep (sep (kn J2) (osl 37 19 (some ⟨g, 0, none⟩) N fc (acs zs))) X)) from by rw [sep_assoc] at h; exact h).cell 3) (fun w X h => (show Sat W w (sep (blk B (.cells #[va, .int .i64 (((pos + 1 : Nat) : Int) : Int), .int .i64 day, .slice (some ⟨g, 0, none⟩) N fc] 45 (0, 0))) (sep (sep (kn J2) (osl 37 19 (some ⟨g, 0, none⟩) N fc (acs zs))) X)) from by rw [sep_assoc] at h; exact h).cell 3)⟩) (by kernel_rfl) ?_ ?_ ?_
            · intro t ht
              simp only [List.mem_cons, List.not_mem_nil, or_false] at ht
              rcases ht with rfl | rfl
              · refine goodG_cl2 (di := some 63) (dk := some 64) rfl rfl rfl (by intro cs b h; cases h) rfl (by intro cs b h; cases h) (by kernel_rfl) (doesCall rfl 11 #[.pointer (some ⟨B, 0, none⟩), .int .i64 N] (fun w' => ?_) HC6.out) (by kernel_rfl) ?_ (doesRun rfl (fun w' A' hw' => ⟨w', ?_, hw'⟩)) (fun _ _ => rfl)
                · (go_simp; try rfl)
                · refine ⟨⟨_, rfl, fun w' => ?_⟩, trivial⟩
                  simp only [Act.put, List.setIfInBounds_toArray, List.set_cons_zero, List.set_cons_succ]
                  (go_simp; try rfl)
                · have hld := run_ldAct_at (osl_act (show Sat W w' (sep (osl 37 19 (some ⟨g, 0, none⟩) N fc (acs zs)) (sep (mkr B va ((pos + 1 : Nat) : Int) day (.slice (some ⟨g, 0, none⟩) N fc)) (sep (kn J2) A'))) from by have h9 := hw'; simpa only [sep_comm, sep_lcomm, sep_assoc] using h9) r hrl)
                  rw [show zs[r] = zr from by have := HZR.out.2; rw [List.getElem?_eq_getElem hrl] at this; exact Option.some.inj this] at hld
                  simp only [Act.put, List.setIfInBounds_toArray, List.set_cons_zero, List.set_cons_succ]
                  (go_simp; try rfl)
              · refine goodG_tail rfl (by intro cs b h; cases h) (doesAlloc rfl (fun w' => ?_)) rfl ?_
                · (go_simp; try rfl)
                · intro _ _ _; trivial
            · show Sat W _ (sep emp (sep (sep (mkr B va (pos : Int) day (.slice (some ⟨g, 0, none⟩) N fc)) (sep (kn J2) (osl 37 19 (some ⟨g, 0, none⟩) N fc (acs zs)))) (sep (blk q (.cells (FilZ N a1 p1 (-1) sd tcv Sv.none).cells.toArray 37 (0, 0))) (sep (blk R (.cells #[.int .i64 0, .int .i64 0, .int .i64 0, .int .i64 0, .int .i64 0, .int .i64 0, .int .i64 0, .int .i64 0, .int .i64 0, .int .i64 0, .int .i64 0, .slice none 0 0, .slice none 0 0, .slice none 0 0, .slice none 0 0, .int .i64 0, .int .i64 0, .slice none 0 0, .slice none 0 0] 37 (0, 0))) A))))
              rw [emp_sep]
              exact HTH.out
            · intro dn1 h1 dn2 h2 w7' h7
              obtain ⟨rfl, h8⟩ := clA_done h1 h7.p1
              obtain ⟨v10, pP, rfl, hg, h9⟩ := tailA_done h2 (fun _ => rfl) h8.p1
              unfold ptrIs at hg
              subst hg
              have h10 : Sat W w7' (sep (blk pP (.cells #[.int .i64 0, .int .i64 0, .int .i64 0, .int .i64 0, .int .i64 0, .int .i64 0, .int .i64 0, .int .i64 0, .int .i64 0, .int .i64 0, .int .i64 0, .slice none 0 0, .slice none 0 0, .slice none 0 0, .slice none 0 0, .int .i64 0, .int .i64 0, .slice none 0 0, .slice none 0 0] 37 (0, 0))) (sep (sep (mkr B va ((pos + 1 : Nat) : Int) day (.slice (some ⟨g, 0, none⟩) N fc)) (sep (kn J2) (osl 37 19 (some ⟨g, 0, none⟩) N fc (acs zs)))) (sep (blk q (.cells (FilZ N a1 p1 (-1) sd tcv Sv.none).cells.toArray 37 (0, 0))) (sep (blk R (.cells #[.int .i64 0, .int .i64 0, .int .i64 0, .int .i64 0, .int .i64 0, .int .i64 0, .int .i64 0, .int .i64 0, .int .i64 0, .int .i64 0, .int .i64 0, .slice none 0 0, .slice none 0 0, .slice none 0 0, .slice none 0 0, .int .i64 0, .int .i64 0, .slice none 0 0, .slice none 0 0] 37 (0, 0))) A)))) := h9
              have hst := run_stAct h10.blk_heap rfl zr
              have h11 := h10.setRow zr.cells.toArray
              obtain ⟨w13, hw13⟩ : ∃ w13, w13 = w7'.setRow pP zr.cells.toArray := ⟨_, rfl⟩
              rw [← hw13] at hst h11
              change wpJ _ _ _ _ _ _ ((((Act.put _ (some 63) (.int .i64 r)).put (some 64) (.pointer (some ⟨g, r * 19, none⟩))).put (some 65) (.agg zr.cells.toArray)).put (some 7) (.pointer (some ⟨pP, 0, none⟩))) _
              simp only [Act.put, List.setIfInBounds_toArray, List.set_cons_zero, List.set_cons_succ]
              have H13 := Lib.hid h11
              clear h1 h2 h7 h8 h9 h10 h11 hw13 HTH hS0 HC6
              (refine J_e rfl rfl (fun K hK => ?_); go_simp)
              (refine hK _ _ (fun h => by cases h) ?_; clear hK K; (try simp only [Act.put, List.setIfInBounds_toArray, List.set_cons_zero, List.set_cons_succ]))
              refine J_nil ?_
              clear hst
              have h14 : Sat W w13 (sep (blk pP (.cells zr.cells.toArray 37 (0, 0))) (sep (blk q (.cells (FilZ N a1 p1 (-1) sd tcv Sv.none).cells.toArray 37 (0, 0))) (sep (mkr B va ((pos + 1 : Nat) : Int) day (.slice (some ⟨g, 0, none⟩) N fc)) (sep (kn J2) fr)))) := by
                rw [HFR.out]
                have h9 := H13.out
                simpa only [sep_comm, sep_lcomm, sep_assoc] using h9
              have k1 : w13.cell? ⟨pP, 11, none⟩ = some (.slice zr.td.a zr.td.n zr.td.c) := (act_fr h14 11 _ rfl).1
              have k2 : w13.cell? ⟨pP, 12, none⟩ = some (.slice zr.tc.a zr.tc.n zr.tc.c) := (act_fr h14 12 _ rfl).1
              have h15 := h14.p1
              have j1 := act_fr h15 11 (.slice sd.a sd.n sd.c) rfl
              have j2 := act_fr h15 12 (.slice tcv.a tcv.n tcv.c) rfl
              obtain ⟨j1a, j1b⟩ := j1
              obtain ⟨j2a, j2b⟩ := j2
              have h16 := (h15.setCell 11 (.slice zr.td.a zr.td.n zr.td.c)).setCell 12 (.slice zr.tc.a zr.tc.n zr.tc.c)
              have e9 : ((FilZ N a1 p1 (-1) sd tcv Sv.none).cells.toArray.setIfInBounds 11 (.slice zr.td.a zr.td.n zr.td.c)).setIfInBounds 12 (.slice zr.tc.a zr.tc.n zr.tc.c) = (FilZ N a1 p1 (-1) zr.td zr.tc Sv.none).cells.toArray := by simp [FilZ, Ac.cells]
              rw [e9] at h16
              obtain ⟨w14, hw14⟩ : ∃ w14, w14 = (w13.setCell ⟨q, 11, none⟩ (.slice zr.td.a zr.td.n zr.td.c)).setCell ⟨q, 12, none⟩ (.slice zr.tc.a zr.tc.n zr.tc.c) := ⟨_, rfl⟩
              rw [← hw14] at h16
              have H16 := Lib.hid h16
              have HW14 := Lib.hid hw14
              clear h14 h15 h16 e9 hw14 H13
              go_upto_region 12 with (fail)
              rw [← HW14.out]
              clear k1 k2 j1a j1b j2a j2b HW14
              have HN7 := Lib.hid (next_spec va l (pos + 1) 3 (by omega) (by omega) (by have := HC.out.2.1; have := HI.out; omega) (HV.out.mono HG.out.1) (show Sat W w14 (sep (mkr B va ((pos + 1 : Nat) : Int) day (.slice (some ⟨g, 0, none⟩) N fc)) (sep (kn J2) (sep (blk q (.cells (FilZ N a1 p1 (-1) zr.td zr.tc Sv.none).cells.toArray 37 (0, 0))) (sep (blk pP (.cells zr.cells.toArray 37 (0, 0))) fr)))) from by have h9 := H16.out; simpa only [sep_comm, sep_lcomm, sep_assoc] using h9))
              obtain ⟨z7, hz7⟩ : ∃ z, z = pickA l (pos + 1) 3 := ⟨_, rfl⟩
              rw [← hz7] at HN7
              clear hz7 H16
              obtain ⟨t7, ht7⟩ : ∃ b, decide (0 < z7) = b := ⟨_, rfl⟩
              go_wp2_with fail
              refine HN7.out.mono ?_
              rintro e w15 ⟨rfl, h17⟩
              have h18 : Sat W w15 (sep (blk pP (.cells zr.cells.toArray 37 (0, 0))) (sep (blk q (.cells (FilZ N a1 p1 (-1) zr.td zr.tc Sv.none).cells.toArray 37 (0, 0))) (sep (mkr B va ((pos + 1 + 1 : Nat) : Int) day (.slice (some ⟨g, 0, none⟩) N fc)) (sep (kn J2) fr)))) := by
                have h9 := h17
                simpa only [sep_comm, sep_lcomm, sep_assoc] using h9
              have H18 := Lib.hid h18
              clear h17 h18 HN7
              go_upto_if 71 with (fail)
              go_cut [] from 72 (fun wx => ∃ p' : Int, Hid ((p' = 1 ∨ p' = 2) ∧ Sat W wx (sep (blk pP (.cells zr.cells.toArray 37 (0, 0))) (sep (blk q (.cells (FilZ N a1 p' (-1) zr.td zr.tc Sv.none).cells.toArray 37 (0, 0))) (sep (mkr B va ((pos + 1 + 1 : Nat) : Int) day (.slice (some ⟨g, 0, none⟩) N fc)) (sep (kn J2) fr))))))
              case first =>
                cases t7 with
                | true =>
                  have k1 : w15.cell? ⟨pP, 5, none⟩ = some (.int .i64 zr.p) := (act_fr H18.out 5 _ rfl).1
                  obtain ⟨j1a, j1b⟩ := act_fr H18.out.p1 5 (.int .i64 p1) rfl
                  go_wp2
                  go_meet
                  case rel =>
                    have h9 := H18.out.p1.setCell 5 (.int .i64 zr.p)
                    have e9 : (FilZ N a1 p1 (-1) zr.td zr.tc Sv.none).cells.toArray.setIfInBounds 5 (.int .i64 zr.p) = (FilZ N a1 zr.p (-1) zr.td zr.tc Sv.none).cells.toArray := by simp [FilZ, Ac.cells]
                    rw [e9] at h9
                    exact ⟨zr.p, Lib.hid ⟨HZR.out.1.2.2.1, h9.p1⟩⟩
                | false =>
                  go_wp2
                  go_meet
                  case rel => exact ⟨p1, Lib.hid ⟨HP1.out.2, H18.out⟩⟩
              case rest =>
                obtain ⟨p', HQ⟩ := hcut
                clear H18 ht7
                have HN8 := Lib.hid (next_spec va l (pos + 1 + 1) 2 (by omega) (by omega) (by have := HC.out.2.1; have := HI.out; omega) (HV.out.mono HG.out.1) (show Sat W wc (sep (mkr B va ((pos + 1 + 1 : Nat) : Int) day (.slice (some ⟨g, 0, none⟩) N fc)) (sep (kn J2) (sep (blk q (.cells (FilZ N a1 p' (-1) zr.td zr.tc Sv.none).cells.toArray 37 (0, 0))) (sep (blk pP (.cells zr.cells.toArray 37 (0, 0))) fr)))) from by have h9 := HQ.out.2; simpa only [sep_comm, sep_lcomm, sep_assoc] using h9))
                obtain ⟨z8, hz8⟩ : ∃ z, z = pickA l (pos + 1 + 1) 2 := ⟨_, rfl⟩
                rw [← hz8] at HN8
                clear hz8
                obtain ⟨t8, ht8⟩ : ∃ b, (z8 == 0) = b := ⟨_, rfl⟩
                go_wp2_with fail
                refine HN8.out.mono ?_
                rintro e w16 ⟨rfl, h17⟩
                have h18 : Sat W w16 (sep (blk pP (.cells zr.cells.toArray 37 (0, 0))) (sep (blk q (.cells (FilZ N a1 p' (-1) zr.td zr.tc Sv.none).cells.toArray 37 (0, 0))) (sep (mkr B va ((pos + 1 + 1 + 1 : Nat) : Int) day (.slice (some ⟨g, 0, none⟩) N fc)) (sep (kn J2) fr)))) := by
                  have h9 := h17
                  simpa only [sep_comm, sep_lcomm, sep_assoc] using h9
                have H18 := Lib.hid h18
                clear h17 h18 HN8
                have HZ9 : Hid (∃ fs' cl', (rF.slice 4).rel J2 [zr.td.v] fs' ∧ (rCl.slice 5).rel J2 [zr.tc.v] cl' ∧ GoodT fs' cl') := Lib.hid (by
                  obtain ⟨-, -, -, -, -, td, tc, h1, h2, h3⟩ := HZR.out.1
                  exact ⟨td, tc, (rF.slice 4).mono HG.out.1 h1, (rCl.slice 5).mono HG.out.1 h2, h3⟩)
                cases t8 with
                | true =>
                  have k1 : w16.cell? ⟨pP, 3, none⟩ = some (.int .i64 zr.f) := (act_fr H18.out 3 _ rfl).1
                  have k2 : w16.cell? ⟨pP, 4, none⟩ = some (.int .i64 zr.o) := (act_fr H18.out 4 _ rfl).1
                  have k3 : w16.cell? ⟨pP, 5, none⟩ = some (.int .i64 zr.p) := (act_fr H18.out 5 _ rfl).1
                  obtain ⟨j1a, j1b⟩ := act_fr H18.out.p1 6 (.int .i64 (-1)) rfl
                  obtain ⟨j2a, j2b⟩ := act_fr H18.out.p1 4 (.int .i64 a1) rfl
                  obtain ⟨j3a, j3b⟩ := act_fr H18.out.p1 5 (.int .i64 p') rfl
                  have hne : pP ≠ q := (H18.out).ne_blk
                  have hne2 : ¬ q = pP := fun e => hne e.symm
                  go_wp2
                  go_meet
                  case rel =>
                    have h9 := ((H18.out.p1.setCell 6 (.int .i64 zr.f)).setCell 4 (.int .i64 zr.o)).setCell 5 (.int .i64 zr.p)
                    have e9 : (((FilZ N a1 p' (-1) zr.td zr.tc Sv.none).cells.toArray.setIfInBounds 6 (.int .i64 zr.f)).setIfInBounds 4 (.int .i64 zr.o)).setIfInBounds 5 (.int .i64 zr.p) = (FilZ N zr.o zr.p zr.f zr.td zr.tc Sv.none).cells.toArray := by simp [FilZ, Ac.cells]
                    rw [e9] at h9
                    obtain ⟨fs', cl', h1, h2, h3⟩ := HZ9.out
                    exact ⟨zr.o, zr.p, zr.f, zr.td, zr.tc, fs', cl', J2, pos + 1 + 1 + 1, Lib.hid ⟨HZR.out.1.2.1, HZR.out.1.2.2.1, .inr HZR.out.1.1, h1, h2, h3, HG.out.1, by have := HC.out.1; omega, by have := HC.out.2.1; omega, by have h8 := h9.p1.forget; have h9 := h8; simpa only [sep_comm, sep_lcomm, sep_assoc] using h9⟩⟩
                | false =>
                  go_wp2
                  go_meet
                  case rel =>
                    obtain ⟨fs', cl', h1, h2, h3⟩ := HZ9.out
                    exact ⟨a1, p', -1, zr.td, zr.tc, fs', cl', J2, pos + 1 + 1 + 1, Lib.hid ⟨HP1.out.1, HQ.out.1, .inl rfl, h1, h2, h3, HG.out.1, by have := HC.out.1; omega, by have := HC.out.2.1; omega, by have h9 := H18.out.forget; simpa only [sep_comm, sep_lcomm, sep_assoc] using h9⟩⟩
          /-VED3-/
        case rest =>
         as_aux_lemma =>
          /-DEV4-/
          obtain ⟨o0, p0, q0, s, t, fs, cl, J0, pos0, HC0⟩ := hcut
          obtain ⟨i9, hi9⟩ : ∃ z, z = i + 40 := ⟨_, rfl⟩
          have HI9 := Lib.hid hi9
          clear HC HG hbN HP1 HI8 HI2 HTC HM hi9
          go_upto_block 2 with (fail)
          go_cut [] from 11 (fun wx => ∃ (o p2 q0 : Int) (s t e : Sv) (fs : List Fm) (cl : List Cl) (es : List Ea) (J : Mem) (pos : Nat), Hid (((o = 0 ∨ o = 1) ∧ (p2 = 1 ∨ p2 = 2) ∧ (q0 = -1 ∨ FileB N q0) ∧ (rF.slice 4).rel J [s.v] fs ∧ (rCl.slice 5).rel J [t.v] cl ∧ GoodT fs cl ∧ Mem.le I J) ∧ (rEa.slice 2).rel J [e.v] es ∧ GoodEa N es ∧ i ≤ pos ∧ pos ≤ i + 50 ∧ Sat W wx (sep (mkr B va (pos : Int) day (.slice fa N fc)) (sep (kn J) (sep (blk q (.cells (FilZ N o p2 q0 s t e).cells.toArray 37 (0, 0))) fr)))))
          case first =>
           as_aux_lemma =>
            go_wp2_with fail
            go_loopw [8] (fun iv wr => ∃ (x n c pos : Nat) (o p2 q0 : Int) (s t : Sv) (a : Option Addr) (fs : List Fm) (cl : List Cl) (es : List Ea) (vs : List Value) (J : Mem), iv = .int .i64 x ∧ x ≤ 2 ∧ n ≤ x ∧ Hid (((o = 0 ∨ o = 1) ∧ (p2 = 1 ∨ p2 = 2) ∧ (q0 = -1 ∨ FileB N q0) ∧ (rF.slice 4).rel J [s.v] fs ∧ (rCl.slice 5).rel J [t.v] cl ∧ GoodT fs cl ∧ Mem.le I J) ∧ n = es.length ∧ (rEa.rows 2).rel J vs es ∧ GoodEa N es ∧ i ≤ pos ∧ pos ≤ i9 + 4 * x ∧ Sat W wr (sep (osl 62 2 a n c vs) (sep (mkr B va (pos : Int) day (.slice fa N fc)) (sep (kn J) (sep (blk q (.cells (FilZ N o p2 q0 s t ⟨a, n, c⟩).cells.toArray 37 (0, 0))) fr)))))) (fun iv _ => 3 - (intOf iv).toNat)
            case atStart =>
              obtain ⟨h1, h2, h3, h4, h5, h6, h7, h8, h9, h10⟩ := HC0.out
              exact ⟨0, 0, 0, pos0, o0, p0, q0, s, t, none, fs, cl, [], [], J0, rfl, by omega, Nat.le_refl _, Lib.hid ⟨⟨h1, h2, h3, h4, h5, h6, h7⟩, rfl, ⟨[], rfl, trivial⟩, ⟨Nat.zero_le _, (fun e he => by cases he), List.Pairwise.nil⟩, h8, by have := HI9.out; omega, h10.osl_nil 62 2⟩⟩
            case round =>
              clear HC0
              obtain ⟨x, n, c, pos, o, p2, q0, s, t, a, fs, cl, es, vs, J, rfl, hx2, hnx, HL⟩ := hrel
              by_cases hN0 : N = 0
              · have hN0z : ¬ (0 : Int) < (N : Int) := by omega
                by_cases hlt : x < 2
                · have hltz : (x : Int) < 2 := by omega
                  have hx2b := hx2
                  clear hlt hN0
                  go_wp2
                  go_meet
                  case rel => 
                    obtain ⟨hg, hn, hrows, hge, hp1, hp2, hS⟩ := HL.out
                    have hsw := hS.swf_of_osl
                    obtain ⟨J', hle', hJ', h9⟩ := (show Sat W wr (sep (rsl a vs) (sep (kn J) (sep (mkr B va (pos : Int) day (.slice fa N fc)) (sep (blk q (.cells (FilZ N o p2 q0 s t ⟨a, n, c⟩).cells.toArray 37 (0, 0))) fr)))) from by
                      have h9 := hS.osl_settle
                      simpa only [sep_comm, sep_lcomm, sep_assoc] using h9).learn
                    exact ⟨o, p2, q0, s, t, ⟨a, n, c⟩, fs, cl, es, J', pos, Lib.hid ⟨⟨hg.1, hg.2.1, hg.2.2.1, (rF.slice 4).mono hle' hg.2.2.2.1, (rCl.slice 5).mono hle' hg.2.2.2.2.1, hg.2.2.2.2.2.1, Mem.le_trans hg.2.2.2.2.2.2 hle'⟩, ⟨a, c, vs, by rw [← hn]; rfl, by rw [← hn]; exact hsw, hJ', (rEa.rows 2).mono hle' hrows⟩, hge, hp1, by have := HI9.out; omega, h9.p1⟩⟩
                · have hltz : ¬ (x : Int) < 2 := by omega
                  clear hlt hN0
                  go_wp2
                  go_meet
                  case rel => 
                    obtain ⟨hg, hn, hrows, hge, hp1, hp2, hS⟩ := HL.out
                    have hsw := hS.swf_of_osl
                    obtain ⟨J', hle', hJ', h9⟩ := (show Sat W wr (sep (rsl a vs) (sep (kn J) (sep (mkr B va (pos : Int) day (.slice fa N fc)) (sep (blk q (.cells (FilZ N o p2 q0 s t ⟨a, n, c⟩).cells.toArray 37 (0, 0))) fr)))) from by
                      have h9 := hS.osl_settle
                      simpa only [sep_comm, sep_lcomm, sep_assoc] using h9).learn
                    exact ⟨o, p2, q0, s, t, ⟨a, n, c⟩, fs, cl, es, J', pos, Lib.hid ⟨⟨hg.1, hg.2.1, hg.2.2.1, (rF.slice 4).mono hle' hg.2.2.2.1, (rCl.slice 5).mono hle' hg.2.2.2.2.1, hg.2.2.2.2.2.1, Mem.le_trans hg.2.2.2.2.2.2 hle'⟩, ⟨a, c, vs, by rw [← hn]; rfl, by rw [← hn]; exact hsw, hJ', (rEa.rows 2).mono hle' hrows⟩, hge, hp1, by have := HI9.out; omega, h9.p1⟩⟩
              · by_cases hlt : x < 2
                · have hltz : (x : Int) < 2 := by omega
                  have hNz0 : (0 : Int) < (N : Int) := by omega
                  have hC := HL.out.2.2.2.2.2.2
                  rw [HFR.out] at hC
                  have hC2 : Sat W wr (sep (osl 37 19 fa N fc (acs zs)) (sep (mkr B va (pos : Int) day (.slice fa N fc)) (sep (kn J) (sep (osl 62 2 a n c vs) (sep (blk q (.cells (FilZ N o p2 q0 s t ⟨a, n, c⟩).cells.toArray 37 (0, 0))) (sep (blk R (.cells #[.int .i64 0, .int .i64 0, .int .i64 0, .int .i64 0, .int .i64 0, .int .i64 0, .int .i64 0, .int .i64 0, .int .i64 0, .int .i64 0, .int .i64 0, .slice none 0 0, .slice none 0 0, .slice none 0 0, .slice none 0 0, .int .i64 0, .int .i64 0, .slice none 0 0, .slice none 0 0] 37 (0, 0))) A)))))) := by
                    have h9 := hC
                    simpa only [sep_comm, sep_lcomm, sep_assoc] using h9
                  obtain ⟨g, rfl⟩ : ∃ g, fa = some ⟨g, 0, none⟩ := by
                    rcases hC2.osl_cases with ⟨-, h0, -⟩ | ⟨g, cur, rfl, -⟩
                    · omega
                    · exact ⟨g, rfl⟩
                  have hS0 : wr.drew.cell? ⟨B, 3, none⟩ = some (.slice (some ⟨g, 0, none⟩) N fc) := (show Sat W wr.drew (sep (blk B (.cells #[va, .int .i64 (pos : Int), .int .i64 day, (.slice (some ⟨g, 0, none⟩) N fc)] 45 (0, 0))) (sep (osl 37 19 (some ⟨g, 0, none⟩) N fc (acs zs)) (sep (kn J) (sep (osl 62 2 a n c vs) (sep (blk q (.cells (FilZ N o p2 q0 s t ⟨a, n, c⟩).cells.toArray 37 (0, 0))) (sep (blk R (.cells #[.int .i64 0, .int .i64 0, .int .i64 0, .int .i64 0, .int .i64 0, .int .i64 0, .int .i64 0, .int .i64 0, .int .i64 0, .int .i64 0, .int .i64 0, .slice none 0 0, .slice none 0 0, .slice none 0 0, .slice none 0 0, .int .i64 0, .int .i64 0, .slice none 0 0, .slice none 0 0] 37 (0, 0))) A)))))) from hC2.p1.drew).cell 3
                  have HTH : Hid (Sat W wr.drew (sep (sep (mkr B va (pos : Int) day (.slice (some ⟨g, 0, none⟩) N fc)) (sep (kn J) (osl 37 19 (some ⟨g, 0, none⟩) N fc (acs zs)))) (sep (osl 62 2 a n c vs) (sep (blk q (.cells (FilZ N o p2 q0 s t ⟨a, n, c⟩).cells.toArray 37 (0, 0))) (sep (blk R (.cells #[.int .i64 0, .int .i64 0, .int .i64 0, .int .i64 0, .int .i64 0, .int .i64 0, .int .i64 0, .int .i64 0, .int .i64 0, .int .i64 0, .int .i64 0, .slice none 0 0, .slice none 0 0, .slice none 0 0, .slice none 0 0, .int .i64 0, .int .i64 0, .slice none 0 0, .slice none 0 0] 37 (0, 0))) A))))) := Lib.hid (by
                    have h9 := hC2.drew
                    simpa only [sep_comm, sep_lcomm, sep_assoc] using h9)
                  have HPB : pos < 1000000 := by have := HL.out.2.2.2.2.2.1; have := HI.out; have := HI9.out; omega
                  have HLE := HL.out.1.2.2.2.2.2.2
                  have HX := Lib.hid (And.intro hx2 (And.intro hnx hlt))
                  clear hC hC2 hN0 hlt
                  go_upto_region 21 with (fail)
                  have hb6 := pickA_bd l pos N (by omega)
                  obtain ⟨r0, hr0⟩ : ∃ z, z = pickA l pos N := ⟨_, rfl⟩
                  rw [← hr0] at hb6
                  obtain ⟨r, rfl⟩ : ∃ z : Nat, r0 = (z : Int) := ⟨r0.toNat, by omega⟩
                  have hrN : r < N := by omega
                  have hrz : (r : Int) < (N : Int) := by omega
                  have hrl : r < zs.length := by have := HNN.out; omega
                  obtain ⟨zr, hzr⟩ : ∃ z, z = zs[r] := ⟨_, rfl⟩
                  have HZR : Hid (FilAt I N zr ∧ zs[r]? = some zr) := Lib.hid ⟨by rw [hzr]; exact HFL.out _ (List.getElem_mem hrl), by rw [hzr]; exact List.getElem?_eq_getElem hrl⟩
                  have HC6 : Hid (∀ (w0 : World) (A0 : Assn), Sat W w0 (sep (sep (mkr B va (pos : Int) day (.slice (some ⟨g, 0, none⟩) N fc)) (sep (kn J) (osl 37 19 (some ⟨g, 0, none⟩) N fc (acs zs)))) A0) → Calls Tryz.prog 11 #[.pointer (some ⟨B, 0, none⟩), .int .i64 N] w0 fun e w' => ∃ v, e = .returned v ∧ Sat W w' (sep (sep (fact (v = .int .i64 (r : Int))) (sep (mkr B va ((pos + 1 : Nat) : Int) day (.slice (some ⟨g, 0, none⟩) N fc)) (sep (kn J) (osl 37 19 (some ⟨g, 0, none⟩) N fc (acs zs))))) A0)) := Lib.hid (by
                    intro w0 A0 h0
                    have hlt9 : pos < 1000000 := HPB
                    refine (next_spec va l pos N (by omega) (by omega) hlt9 (HV.out.mono HLE) (show Sat W w0 (sep (mkr B va (pos : Int) day (.slice (some ⟨g, 0, none⟩) N fc)) (sep (kn J) (sep (osl 37 19 (some ⟨g, 0, none⟩) N fc (acs zs)) A0))) from by rw [sep_assoc, sep_assoc] at h0; exact h0)).mono ?_
                    rintro e w' ⟨rfl, h3⟩
                    refine ⟨_, rfl, ?_⟩
                    rw [sep_assoc]
                    refine Sat.fact.2 ⟨by rw [hr0], ?_⟩
                    rw [sep_assoc, sep_assoc]
                    exact h3)
                  clear hr0 hb6 hzr
                  refine wp_region_itemsJW rfl (fun w' => w'.cell? ⟨B, 3, none⟩ = some (.slice (some ⟨g, 0, none⟩) N fc)) [.one 0 .p, .one 1 .p, .one 2 .p, .one 3 .s, .one 4 .p, .one 5 .p, .grp true [(6, [7]), (8, []), (9, [])], .one 10 (.e false)] (by kernel_rfl) ?_
                  (repeat ((first | (refine J_p (v := ?_) rfl rfl (fun w' => ?_) ?_; rotate_left; (go_simp; with_reducible rfl)) | (refine J_s (v := ?_) rfl rfl hS0 (fun w' hS => ?_) ?_; rotate_left; ((try dsimp only at hS); go_simp; with_reducible rfl)) | (refine J_t (v := ?_) rfl rfl ?_ ?_; rotate_left; (go_simp; with_reducible rfl)) | (refine J_po rfl rfl ?_) | (refine J_so rfl rfl hS0 ?_) | (refine J_to rfl rfl ?_)); simp only [Act.put, List.setIfInBounds_toArray, List.set_cons_zero, List.set_cons_succ]))
                  refine wpJ_threads' (W := W) (A := (sep (osl 62 2 a n c vs) (sep (blk q (.cells (FilZ N o p2 q0 s t ⟨a, n, c⟩).cells.toArray 37 (0, 0))) (sep (blk R (.cells #[.int .i64 0, .int .i64 0, .int .i64 0, .int .i64 0, .int .i64 0, .int .i64 0, .int .i64 0, .int .i64 0, .int .i64 0, .int .i64 0, .int .i64 0, .slice none 0 0, .slice none 0 0, .slice none 0 0, .slice none 0 0, .int .i64 0, .int .i64 0, .slice none 0 0, .slice none 0 0] 37 (0, 0))) A)))) [⟨[(6, [7]), (8, [])], clA (sep (mkr B va (pos : Int) day (.slice (some ⟨g, 0, none⟩) N fc)) (sep (kn J) (osl 37 19 (some ⟨g, 0, none⟩) N fc (acs zs)))) (sep (mkr B va ((pos + 1 : Nat) : Int) day (.slice (some ⟨g, 0, none⟩) N fc)) (sep (kn J) (osl 37 19 (some ⟨g, 0, none⟩) N fc (acs zs)))) (sep (mkr B va ((pos + 1 : Nat) : Int) day (.slice (some ⟨g, 0, none⟩) N fc)) (sep (kn J) (osl 37 19 (some ⟨g, 0, none⟩) N fc (acs zs)))) (.int .i64 r) (.pointer (some ⟨g, r * 19, none⟩)) (.agg zr.cells.toArray)⟩, ⟨[(9, [])], tailA emp ptrIs (fun g => blk g (.cells #[.int .i64 0, .int .i64 0, .int .i64 0, .int .i64 0, .int .i64 0, .int .i64 0, .int .i64 0, .int .i64 0, .int .i64 0, .int .i64 0, .int .i64 0, .slice none 0 0, .slice none 0 0, .slice none 0 0, .slice none 0 0, .int .i64 0, .int .i64 0, .slice none 0 0, .slice none 0 0] 37 (0, 0))) (fun _ => [])⟩]
                    (fun _ => ⟨_, List.mem_cons_self, clA_S (fun w X h => (show Sat W w (sep (blk B (.cells #[va, .int .i64 (pos : Int), .int .i64 day, .slice (some ⟨g, 0, none⟩) N fc] 45 (0, 0))) (sep (sep (kn J) (osl 37 19 (some ⟨g, 0, none⟩) N fc (acs zs))) X)) from by rw [sep_assoc] at h; exact h).cell 3) (fun w X h => (show Sat W w (sep (blk B (.cells #[va, .int .i64 (((pos + 1 : Nat) : Int) : Int), .int .i64 day, .slice (some ⟨g, 0, none⟩) N fc] 45 (0, 0))) (sep (sep (kn J) (osl 37 19 (some ⟨g, 0, none⟩) N fc (acs zs))) X)) from by rw [sep_assoc] at h; exact h).cell 3) (fun w X h => (show Sat W w (sep (blk B (.cells #[va, .int .i64 (((pos + 1 : Nat) : Int) : Int), .int .i64 day, .slice (some ⟨g, 0, none⟩) N fc] 45 (0, 0))) (sep (sep (kn J) (osl 37 19 (some ⟨g, 0, none⟩) N fc (acs zs))) X)) from by rw [sep_assoc] at h; exact h).cell 3)⟩) (by kernel_rfl) ?_ ?_ ?_
                  · intro t ht
                    simp only [List.mem_cons, List.not_mem_nil, or_false] at ht
                    rcases ht with rfl | rfl
                    · refine goodG_cl2 (di := some 101) (dk := some 102) rfl rfl rfl (by intro cs b h; cases h) rfl (by intro cs b h; cases h) (by kernel_rfl) (doesCall rfl 11 #[.pointer (some ⟨B, 0, none⟩), .int .i64 N] (fun w' => ?_) HC6.out) (by kernel_rfl) ?_ (doesRun rfl (fun w' A' hw' => ⟨w', ?_, hw'⟩)) (fun _ _ => rfl)
                      · (go_simp; try rfl)
                      · refine ⟨⟨_, rfl, fun w' => ?_⟩, trivial⟩
                        simp only [Act.put, List.setIfInBounds_toArray, List.set_cons_zero, List.set_cons_succ]
                        (go_simp; try rfl)
                      · have hld := run_ldAct_at (osl_act (show Sat W w' (sep (osl 37 19 (some ⟨g, 0, none⟩) N fc (acs zs)) (sep (mkr B va ((pos + 1 : Nat) : Int) day (.slice (some ⟨g, 0, none⟩) N fc)) (sep (kn J) A'))) from by have h9 := hw'; simpa only [sep_comm, sep_lcomm, sep_assoc] using h9) r hrl)
                        rw [show zs[r] = zr from by have := HZR.out.2; rw [List.getElem?_eq_getElem hrl] at this; exact Option.some.inj this] at hld
                        simp only [Act.put, List.setIfInBounds_toArray, List.set_cons_zero, List.set_cons_succ]
                        (go_simp; try rfl)
                    · refine goodG_tail rfl (by intro cs b h; cases h) (doesAlloc rfl (fun w' => ?_)) rfl ?_
                      · (go_simp; try rfl)
                      · intro _ _ _; trivial
                  · show Sat W _ (sep emp (sep (sep (mkr B va (pos : Int) day (.slice (some ⟨g, 0, none⟩) N fc)) (sep (kn J) (osl 37 19 (some ⟨g, 0, none⟩) N fc (acs zs)))) (sep (osl 62 2 a n c vs) (sep (blk q (.cells (FilZ N o p2 q0 s t ⟨a, n, c⟩).cells.toArray 37 (0, 0))) (sep (blk R (.cells #[.int .i64 0, .int .i64 0, .int .i64 0, .int .i64 0, .int .i64 0, .int .i64 0, .int .i64 0, .int .i64 0, .int .i64 0, .int .i64 0, .int .i64 0, .slice none 0 0, .slice none 0 0, .slice none 0 0, .slice none 0 0, .int .i64 0, .int .i64 0, .slice none 0 0, .slice none 0 0] 37 (0, 0))) A)))))
                    rw [emp_sep]
                    exact HTH.out
                  · intro dn1 h1 dn2 h2 w7' h7
                    obtain ⟨rfl, h8⟩ := clA_done h1 h7.p1
                    obtain ⟨v10, pP, rfl, hg, h9⟩ := tailA_done h2 (fun _ => rfl) h8.p1
                    unfold ptrIs at hg
                    subst hg
                    have h10 : Sat W w7' (sep (blk pP (.cells #[.int .i64 0, .int .i64 0, .int .i64 0, .int .i64 0, .int .i64 0, .int .i64 0, .int .i64 0, .int .i64 0, .int .i64 0, .int .i64 0, .int .i64 0, .slice none 0 0, .slice none 0 0, .slice none 0 0, .slice none 0 0, .int .i64 0, .int .i64 0, .slice none 0 0, .slice none 0 0] 37 (0, 0))) (sep (sep (mkr B va ((pos + 1 : Nat) : Int) day (.slice (some ⟨g, 0, none⟩) N fc)) (sep (kn J) (osl 37 19 (some ⟨g, 0, none⟩) N fc (acs zs)))) (sep (osl 62 2 a n c vs) (sep (blk q (.cells (FilZ N o p2 q0 s t ⟨a, n, c⟩).cells.toArray 37 (0, 0))) (sep (blk R (.cells #[.int .i64 0, .int .i64 0, .int .i64 0, .int .i64 0, .int .i64 0, .int .i64 0, .int .i64 0, .int .i64 0, .int .i64 0, .int .i64 0, .int .i64 0, .slice none 0 0, .slice none 0 0, .slice none 0 0, .slice none 0 0, .int .i64 0, .int .i64 0, .slice none 0 0, .slice none 0 0] 37 (0, 0))) A))))) := h9
                    have hst := run_stAct h10.blk_heap rfl zr
                    have h11 := h10.setRow zr.cells.toArray
                    obtain ⟨w13, hw13⟩ : ∃ w13, w13 = w7'.setRow pP zr.cells.toArray := ⟨_, rfl⟩
                    rw [← hw13] at hst h11
                    change wpJ _ _ _ _ _ _ ((((Act.put _ (some 101) (.int .i64 r)).put (some 102) (.pointer (some ⟨g, r * 19, none⟩))).put (some 103) (.agg zr.cells.toArray)).put (some 9) (.pointer (some ⟨pP, 0, none⟩))) _
                    simp only [Act.put, List.setIfInBounds_toArray, List.set_cons_zero, List.set_cons_succ]
                    have H13 := Lib.hid h11
                    clear h1 h2 h7 h8 h9 h10 h11 hw13 HTH hS0 HC6
                    (refine J_e rfl rfl (fun K hK => ?_); go_simp)
                    (refine hK _ _ (fun h => by cases h) ?_; clear hK K; (try simp only [Act.put, List.setIfInBounds_toArray, List.set_cons_zero, List.set_cons_succ]))
                    refine J_nil ?_
                    clear hst
                    have h14 : Sat W w13 (sep (blk pP (.cells zr.cells.toArray 37 (0, 0))) (sep (osl 62 2 a n c vs) (sep (blk q (.cells (FilZ N o p2 q0 s t ⟨a, n, c⟩).cells.toArray 37 (0, 0))) (sep (mkr B va ((pos + 1 : Nat) : Int) day (.slice (some ⟨g, 0, none⟩) N fc)) (sep (kn J) fr))))) := by
                      rw [HFR.out]
                      have h9 := H13.out
                      simpa only [sep_comm, sep_lcomm, sep_assoc] using h9
                    have H14 := Lib.hid h14
                    clear h14 H13
                    go_upto_region 22 with (fail)
                    go_cut [126] from 104 to 125 (fun bv wx => ∃ bb : Bool, bv = .bool bb ∧ (bb = true → (∀ e ∈ es, e.file ≠ zr.f) ∧ n ≤ 1) ∧ Sat W wx (sep (blk pP (.cells zr.cells.toArray 37 (0, 0))) (sep (osl 62 2 a n c vs) (sep (blk q (.cells (FilZ N o p2 q0 s t ⟨a, n, c⟩).cells.toArray 37 (0, 0))) (sep (mkr B va ((pos + 1 + 1 : Nat) : Int) day (.slice (some ⟨g, 0, none⟩) N fc)) (sep (kn J) fr))))))
                    case first =>
                     as_aux_lemma =>
                      have hd := H14.out.drew
                      have HN8 := Lib.hid (next_spec va l (pos + 1) 2 (by omega) (by omega) (by have := HL.out.2.2.2.2.2.1; have := HI.out; have := HI9.out; have := HX.out.1; omega) (HV.out.mono HLE) (show Sat W w13.drew (sep (mkr B va ((pos + 1 : Nat) : Int) day (.slice (some ⟨g, 0, none⟩) N fc)) (sep (kn J) (sep (blk pP (.cells zr.cells.toArray 37 (0, 0))) (sep (osl 62 2 a n c vs) (sep (blk q (.cells (FilZ N o p2 q0 s t ⟨a, n, c⟩).cells.toArray 37 (0, 0))) fr))))) from by have h9 := hd; simpa only [sep_comm, sep_lcomm, sep_assoc] using h9))
                      obtain ⟨z8, hz8⟩ : ∃ z, z = pickA l (pos + 1) 2 := ⟨_, rfl⟩
                      rw [← hz8] at HN8
                      clear hz8 hd H14
                      obtain ⟨t8, ht8⟩ : ∃ b, (z8 == 0) = b := ⟨_, rfl⟩
                      have hall : ∀ w' : World, Sat W w' (sep (mkr B va ((pos + 1 + 1 : Nat) : Int) day (.slice (some ⟨g, 0, none⟩) N fc)) (sep (kn J) (sep (blk pP (.cells zr.cells.toArray 37 (0, 0))) (sep (osl 62 2 a n c vs) (sep (blk q (.cells (FilZ N o p2 q0 s t ⟨a, n, c⟩).cells.toArray 37 (0, 0))) fr))))) → Sat W w' (sep (blk pP (.cells zr.cells.toArray 37 (0, 0))) (sep (osl 62 2 a n c vs) (sep (blk q (.cells (FilZ N o p2 q0 s t ⟨a, n, c⟩).cells.toArray 37 (0, 0))) (sep (mkr B va ((pos + 1 + 1 : Nat) : Int) day (.slice (some ⟨g, 0, none⟩) N fc)) (sep (kn J) fr))))) := fun w' h => by
                        have h9 := h
                        simpa only [sep_comm, sep_lcomm, sep_assoc] using h9
                      have HALL := Lib.hid hall
                      clear hall
                      have hcase : t8 = false ∨ (t8 = true ∧ x = 0) ∨ (t8 = true ∧ x = 1 ∧ n = 0) ∨ (t8 = true ∧ x = 1 ∧ n = 1) := by
                        cases t8
                        · exact .inl rfl
                        · have h0 : x = 0 ∨ (x = 1 ∧ n = 0) ∨ (x = 1 ∧ n = 1) := by have := HX.out; omega
                          rcases h0 with h | h | h
                          · exact .inr (.inl ⟨rfl, h⟩)
                          · exact .inr (.inr (.inl ⟨rfl, h⟩))
                          · exact .inr (.inr (.inr ⟨rfl, h⟩))
                      rcases hcase with rfl | ⟨rfl, rfl⟩ | ⟨rfl, rfl, rfl⟩ | ⟨rfl, rfl, rfl⟩
                      · refine wp_region_canon rfl (fun _ => True) [(0, .p), (1, .e false), (2, .p), (3, .p), (4, .p), (5, .p), (6, .p), (7, .p), (8, .t), (9, .p), (10, .p), (11, .p), (12, .p), (13, .p), (14, .t), (15, .p), (16, .p), (17, .t), (18, .p), (19, .t), (20, .p), (21, .p), (22, .p)] (by kernel_rfl) ?_
                        have hS0 : True := trivial
                        (repeat ((first | (refine C_p (v := ?_) rfl rfl (fun w' => ?_) ?_; rotate_left; (go_simp; with_reducible rfl)) | (refine C_s (v := ?_) rfl rfl hS0 (fun w' hS => ?_) ?_; rotate_left; ((try dsimp only at hS); go_simp; with_reducible rfl)) | (refine C_t (v := ?_) rfl rfl ?_ ?_; rotate_left; (go_simp; with_reducible rfl)) | (refine C_po rfl rfl ?_) | (refine C_so rfl rfl hS0 ?_) | (refine C_to rfl rfl ?_)); simp only [Act.put, List.setIfInBounds_toArray, List.set_cons_zero, List.set_cons_succ]))
                        (refine C_e rfl rfl (fun K hK => ?_); go_simp)
                        refine HN8.out.mono ?_
                        rintro e w17 ⟨rfl, h17⟩
                        (refine hK _ _ (fun h => by cases h) ?_; clear hK K; (try simp only [Act.put, List.setIfInBounds_toArray, List.set_cons_zero, List.set_cons_succ]))
                        (repeat ((first | (refine C_p (v := ?_) rfl rfl (fun w' => ?_) ?_; rotate_left; (go_simp; with_reducible rfl)) | (refine C_s (v := ?_) rfl rfl hS0 (fun w' hS => ?_) ?_; rotate_left; ((try dsimp only at hS); go_simp; with_reducible rfl)) | (refine C_t (v := ?_) rfl rfl ?_ ?_; rotate_left; (go_simp; with_reducible rfl)) | (refine C_po rfl rfl ?_) | (refine C_so rfl rfl hS0 ?_) | (refine C_to rfl rfl ?_)); simp only [Act.put, List.setIfInBounds_toArray, List.set_cons_zero, List.set_cons_succ]))
                        refine C_nil ?_
                        go_wp2
                        go_meet
                        case rel => exact ⟨false, rfl, (fun h => by cases h), HALL.out _ h17⟩
                      · refine wp_region_canon rfl (fun _ => True) [(0, .p), (1, .e false), (2, .p), (3, .p), (4, .p), (5, .p), (6, .p), (7, .p), (8, .t), (9, .p), (10, .p), (11, .p), (12, .p), (13, .p), (14, .t), (15, .p), (16, .p), (17, .t), (18, .p), (19, .t), (20, .p), (21, .p), (22, .p)] (by kernel_rfl) ?_
                        have hS0 : True := trivial
                        (repeat ((first | (refine C_p (v := ?_) rfl rfl (fun w' => ?_) ?_; rotate_left; (go_simp; with_reducible rfl)) | (refine C_s (v := ?_) rfl rfl hS0 (fun w' hS => ?_) ?_; rotate_left; ((try dsimp only at hS); go_simp; with_reducible rfl)) | (refine C_t (v := ?_) rfl rfl ?_ ?_; rotate_left; (go_simp; with_reducible rfl)) | (refine C_po rfl rfl ?_) | (refine C_so rfl rfl hS0 ?_) | (refine C_to rfl rfl ?_)); simp only [Act.put, List.setIfInBounds_toArray, List.set_cons_zero, List.set_cons_succ]))
                        (refine C_e rfl rfl (fun K hK => ?_); go_simp)
                        refine HN8.out.mono ?_
                        rintro e w17 ⟨rfl, h17⟩
                        (refine hK _ _ (fun h => by cases h) ?_; clear hK K; (try simp only [Act.put, List.setIfInBounds_toArray, List.set_cons_zero, List.set_cons_succ]))
                        (repeat ((first | (refine C_p (v := ?_) rfl rfl (fun w' => ?_) ?_; rotate_left; (go_simp; with_reducible rfl)) | (refine C_s (v := ?_) rfl rfl hS0 (fun w' hS => ?_) ?_; rotate_left; ((try dsimp only at hS); go_simp; with_reducible rfl)) | (refine C_t (v := ?_) rfl rfl ?_ ?_; rotate_left; (go_simp; with_reducible rfl)) | (refine C_po rfl rfl ?_) | (refine C_so rfl rfl hS0 ?_) | (refine C_to rfl rfl ?_)); simp only [Act.put, List.setIfInBounds_toArray, List.set_cons_zero, List.set_cons_succ]))
                        refine C_nil ?_
                        go_wp2
                        go_meet
                        case rel => exact ⟨true, rfl, (fun _ => ⟨(by have h0 : es = [] := List.eq_nil_of_length_eq_zero (by have := HL.out.2.1; have := HX.out.2.1; omega); rw [h0]; intro e he; cases he), by have := HX.out.2.1; omega⟩), HALL.out _ h17⟩
                      · refine wp_region_canon rfl (fun _ => True) [(0, .p), (1, .e false), (2, .p), (3, .p), (4, .p), (5, .p), (6, .p), (7, .p), (8, .t), (9, .p), (10, .p), (11, .p), (12, .p), (13, .p), (14, .t), (15, .p), (16, .p), (17, .t), (18, .p), (19, .t), (20, .p), (21, .p), (22, .p)] (by kernel_rfl) ?_
                        have hS0 : True := trivial
                        (repeat ((first | (refine C_p (v := ?_) rfl rfl (fun w' => ?_) ?_; rotate_left; (go_simp; with_reducible rfl)) | (refine C_s (v := ?_) rfl rfl hS0 (fun w' hS => ?_) ?_; rotate_left; ((try dsimp only at hS); go_simp; with_reducible rfl)) | (refine C_t (v := ?_) rfl rfl ?_ ?_; rotate_left; (go_simp; with_reducible rfl)) | (refine C_po rfl rfl ?_) | (refine C_so rfl rfl hS0 ?_) | (refine C_to rfl rfl ?_)); simp only [Act.put, List.setIfInBounds_toArray, List.set_cons_zero, List.set_cons_succ]))
                        (refine C_e rfl rfl (fun K hK => ?_); go_simp)
                        refine HN8.out.mono ?_
                        rintro e w17 ⟨rfl, h17⟩
                        have m14 : w17.cell? ⟨q, 14, none⟩ = some (.slice a 0 c) := (act_fr (HALL.out _ h17).p2 14 _ rfl).1
                        (refine hK _ _ (fun h => by cases h) ?_; clear hK K; (try simp only [Act.put, List.setIfInBounds_toArray, List.set_cons_zero, List.set_cons_succ]))
                        (repeat ((first | (refine C_p (v := ?_) rfl rfl (fun w' => ?_) ?_; rotate_left; (go_simp; with_reducible rfl)) | (refine C_s (v := ?_) rfl rfl hS0 (fun w' hS => ?_) ?_; rotate_left; ((try dsimp only at hS); go_simp; with_reducible rfl)) | (refine C_t (v := ?_) rfl rfl ?_ ?_; rotate_left; (go_simp; with_reducible rfl)) | (refine C_po rfl rfl ?_) | (refine C_so rfl rfl hS0 ?_) | (refine C_to rfl rfl ?_)); simp only [Act.put, List.setIfInBounds_toArray, List.set_cons_zero, List.set_cons_succ]))
                        refine C_nil ?_
                        go_wp2
                        go_meet
                        case rel => exact ⟨true, rfl, (fun _ => ⟨(by have h0 : es = [] := List.eq_nil_of_length_eq_zero (by have := HL.out.2.1; omega); rw [h0]; intro e he; cases he), by omega⟩), HALL.out _ h17⟩
                      · obtain ⟨e0, rfl⟩ : ∃ e0, es = [e0] := List.length_eq_one_iff.1 HL.out.2.1.symm
                        have hvs : vs = [.int .i64 e0.file, .int .i64 e0.day] := by
                          obtain ⟨css, e1, h2⟩ := HL.out.2.2.1
                          match css, h2 with
                          | [c1], h2 =>
                            have h3 : c1 = [.int .i64 e0.file, .int .i64 e0.day] := h2.1.1
                            rw [e1, h3]; rfl
                        obtain ⟨u0, hu0⟩ : ∃ z, z = e0.file := ⟨_, rfl⟩
                        obtain ⟨v0, hv0⟩ : ∃ z, z = zr.f := ⟨_, rfl⟩
                        obtain ⟨t9, ht9⟩ : ∃ b, (u0 == v0) = b := ⟨_, rfl⟩
                        have ht9b : (u0 != v0) = !t9 := by rw [← ht9]; rfl
                        have HU := Lib.hid (And.intro hu0 (And.intro hv0 hvs))
                        clear hu0 hv0 hvs
                        refine wp_region_canon rfl (fun _ => True) [(0, .p), (1, .e false), (2, .p), (3, .p), (4, .p), (5, .p), (6, .p), (7, .p), (8, .t), (9, .p), (10, .p), (11, .p), (12, .p), (13, .p), (14, .t), (15, .p), (16, .p), (17, .t), (18, .p), (19, .t), (20, .p), (21, .p), (22, .p)] (by kernel_rfl) ?_
                        have hS0 : True := trivial
                        (repeat ((first | (refine C_p (v := ?_) rfl rfl (fun w' => ?_) ?_; rotate_left; (go_simp; with_reducible rfl)) | (refine C_s (v := ?_) rfl rfl hS0 (fun w' hS => ?_) ?_; rotate_left; ((try dsimp only at hS); go_simp; with_reducible rfl)) | (refine C_t (v := ?_) rfl rfl ?_ ?_; rotate_left; (go_simp; with_reducible rfl)) | (refine C_po rfl rfl ?_) | (refine C_so rfl rfl hS0 ?_) | (refine C_to rfl rfl ?_)); simp only [Act.put, List.setIfInBounds_toArray, List.set_cons_zero, List.set_cons_succ]))
                        (refine C_e rfl rfl (fun K hK => ?_); go_simp)
                        refine HN8.out.mono ?_
                        rintro e w17 ⟨rfl, h17⟩
                        obtain ⟨ga, rfl⟩ : ∃ ga, a = some ⟨ga, 0, none⟩ := by
                          rcases (HALL.out _ h17).p1.osl_cases with ⟨-, h0, -⟩ | ⟨ga, cur, rfl, -⟩
                          · exact absurd h0 (by omega)
                          · exact ⟨ga, rfl⟩
                        have m14 : w17.cell? ⟨q, 14, none⟩ = some (.slice (some ⟨ga, 0, none⟩) 1 c) := (act_fr (HALL.out _ h17).p2 14 _ rfl).1
                        have mP : w17.cell? ⟨pP, 3, none⟩ = some (.int .i64 v0) := by rw [HU.out.2.1]; exact (act_fr (HALL.out _ h17) 3 _ rfl).1
                        have me : w17.cell? ⟨ga, 0, none⟩ = some (.int .i64 u0) := by
                          have h9 := (HALL.out _ h17).p1.osl_settle.rsl_src 0 (.int .i64 u0) (by rw [HU.out.2.2, HU.out.1]; rfl)
                          exact h9
                        (refine hK _ _ (fun h => by cases h) ?_; clear hK K; (try simp only [Act.put, List.setIfInBounds_toArray, List.set_cons_zero, List.set_cons_succ]))
                        (repeat ((first | (refine C_p (v := ?_) rfl rfl (fun w' => ?_) ?_; rotate_left; (go_simp; with_reducible rfl)) | (refine C_s (v := ?_) rfl rfl hS0 (fun w' hS => ?_) ?_; rotate_left; ((try dsimp only at hS); go_simp; with_reducible rfl)) | (refine C_t (v := ?_) rfl rfl ?_ ?_; rotate_left; (go_simp; with_reducible rfl)) | (refine C_po rfl rfl ?_) | (refine C_so rfl rfl hS0 ?_) | (refine C_to rfl rfl ?_)); simp only [Act.put, List.setIfInBounds_toArray, List.set_cons_zero, List.set_cons_succ]))
                        refine C_nil ?_
                        go_wp2
                        go_meet
                        case rel =>
                         cases t9 with
                         | true => exact ⟨false, rfl, (fun h => by cases h), HALL.out _ h17⟩
                         | false => exact ⟨true, rfl, (fun _ => ⟨by intro e he; rw [List.mem_singleton.1 he, ← HU.out.1, ← HU.out.2.1]; simpa using ht9, Nat.le_refl _⟩), HALL.out _ h17⟩
                    case rest =>
                     as_aux_lemma =>
                      obtain ⟨bb, rfl, hbb, hS5⟩ := hcut
                      have H5 := Lib.hid (And.intro hbb hS5)
                      clear hbb hS5 H14
                      cases bb with
                      | false =>
                        go_wp2
                        go_roundw
                        case rel =>
                          obtain ⟨hg, hn, hrows, hge, hp1, hp2, hS⟩ := HL.out
                          exact ⟨x + 1, n, c, pos + 1 + 1, o, p2, q0, s, t, a, fs, cl, es, vs, J, by go_num, by have := HX.out; omega, by have := HX.out; omega, Lib.hid ⟨hg, hn, hrows, hge, by omega, by omega, by have h9 := H5.out.2.forget; simpa only [sep_comm, sep_lcomm, sep_assoc] using h9⟩⟩
                        case measure => simp [intOf]; have := HX.out; omega
                      | true =>
                        have k1 : wc.cell? ⟨pP, 1, none⟩ = some (.int .i64 zr.d) := (act_fr H5.out.2 1 _ rfl).1
                        obtain ⟨dz, hdz⟩ : ∃ z, z = zr.d := ⟨_, rfl⟩
                        have bdz1 : 35600 ≤ dz := by rw [hdz]; exact HZR.out.1.2.2.2.1
                        have bdz2 : dz ≤ 38000 := by rw [hdz]; exact HZR.out.1.2.2.2.2.1
                        rw [← hdz] at k1
                        have HN9 := Lib.hid (next_spec va l (pos + 1 + 1) 9 (by omega) (by omega) (by have := HL.out.2.2.2.2.2.1; have := HI.out; have := HI9.out; have := HX.out.1; omega) (HV.out.mono HLE) (show Sat W wc (sep (mkr B va ((pos + 1 + 1 : Nat) : Int) day (.slice (some ⟨g, 0, none⟩) N fc)) (sep (kn J) (sep (blk pP (.cells zr.cells.toArray 37 (0, 0))) (sep (osl 62 2 a n c vs) (sep (blk q (.cells (FilZ N o p2 q0 s t ⟨a, n, c⟩).cells.toArray 37 (0, 0))) fr))))) from by have h9 := H5.out.2; simpa only [sep_comm, sep_lcomm, sep_assoc] using h9))
                        obtain ⟨z9, hz9⟩ : ∃ z, z = pickA l (pos + 1 + 1) 9 := ⟨_, rfl⟩
                        rw [← hz9] at HN9
                        obtain ⟨p3, hp3⟩ : ∃ z, z = pos + 1 + 1 + 1 := ⟨_, rfl⟩
                        rw [← hp3] at HN9
                        have HP3 := Lib.hid hp3
                        clear hp3
                        clear hz9 hdz
                        obtain ⟨t9, ht9⟩ : ∃ b, (z9 == 0) = b := ⟨_, rfl⟩
                        go_wp2_with fail
                        refine HN9.out.mono ?_
                        rintro e w19 ⟨rfl, h17⟩
                        have h18 : Sat W w19 (sep (blk pP (.cells zr.cells.toArray 37 (0, 0))) (sep (osl 62 2 a n c vs) (sep (blk q (.cells (FilZ N o p2 q0 s t ⟨a, n, c⟩).cells.toArray 37 (0, 0))) (sep (mkr B va (p3 : Int) day (.slice (some ⟨g, 0, none⟩) N fc)) (sep (kn J) fr))))) := by
                          have h9 := h17
                          simpa only [sep_comm, sep_lcomm, sep_assoc] using h9
                        have H18 := Lib.hid h18
                        clear h17 h18 HN9 k1
                        go_upto_if 131 with (fail)
                        go_cut [10] from 129 to 133 (fun dv wx => ∃ dd : Int, dv = .int .i64 dd ∧ 35600 ≤ dd ∧ dd ≤ 38001 ∧ Sat W wx (sep (blk pP (.cells zr.cells.toArray 37 (0, 0))) (sep (osl 62 2 a n c vs) (sep (blk q (.cells (FilZ N o p2 q0 s t ⟨a, n, c⟩).cells.toArray 37 (0, 0))) (sep (mkr B va (p3 : Int) day (.slice (some ⟨g, 0, none⟩) N fc)) (sep (kn J) fr))))))
                        case first =>
                          cases t9 with
                          | true =>
                            go_wp2
                            go_meet
                            case rel => exact ⟨dz + 1, rfl, by omega, by omega, H18.out⟩
                          | false =>
                            go_wp2
                            go_meet
                            case rel => exact ⟨dz, rfl, by omega, by omega, H18.out⟩
                        case rest =>
                          obtain ⟨dd, rfl, hd1, hd2, hS6⟩ := hcut
                          have HDD := Lib.hid (And.intro hd1 hd2)
                          have k1 : wc.cell? ⟨pP, 3, none⟩ = some (.int .i64 zr.f) := (act_fr hS6 3 _ rfl).1
                          have k2 : wc.cell? ⟨q, 14, none⟩ = some (.slice a n c) := (act_fr hS6.p2 14 _ rfl).1
                          have h7 : Sat W (wc.alloc (.cells #[.int .i64 zr.f, .int .i64 dd] 62)) (sep (osl 62 2 a n c vs) (sep (blk pP (.cells zr.cells.toArray 37 (0, 0))) (sep (blk q (.cells (FilZ N o p2 q0 s t ⟨a, n, c⟩).cells.toArray 37 (0, 0))) (sep (mkr B va (p3 : Int) day (.slice (some ⟨g, 0, none⟩) N fc)) (sep (kn J) fr))))) := by
                            have h9 := hS6.alloc0 (.cells #[.int .i64 zr.f, .int .i64 dd] 62)
                            simpa only [sep_comm, sep_lcomm, sep_assoc] using h9
                          have H7 := Lib.hid h7
                          have HBX := Lib.hid (fun (w : World) => new_src w [.int .i64 zr.f, .int .i64 dd] 62)
                          clear hS6 h7 hd1 hd2 H18 ht9 bdz1 bdz2
                          go_wp2_with (at_builtin; go_loud (refine wpl_append_osl rfl _ _ 32 rfl 62 2 16 _ Tryz.underlying32 infoEarlier rfl rfl H7.out rfl [.int .i64 zr.f, .int .i64 dd] rfl (by simp) (by intro b' hb; cases hb; exact HBX.out _) (by simp [Value.oneCell']) (by have := HX.out; omega) (by unfold maxLen; have := HX.out; omega) ?_))
                          intro a2 c2 w21 h8
                          obtain ⟨j1a, j1b⟩ := act_fr h8.p2 14 (.slice a n c) rfl
                          obtain ⟨j2a, j2b⟩ := act_fr h8.p2 5 (.int .i64 p2) rfl
                          have k3 : w21.cell? ⟨pP, 5, none⟩ = some (.int .i64 zr.p) := (act_fr h8.p1 5 _ rfl).1
                          have hne : ¬ q = pP := fun e => h8.p2.p2.ne_blk e.symm
                          have H8 := Lib.hid h8
                          clear h8 H7 HBX k1 k2
                          go_wp2
                          go_roundw
                          case rel =>
                            obtain ⟨hg, hn, hrows, hge, hp1, hp2, -⟩ := HL.out
                            have h9 := (H8.out.p2.setCell 14 (.slice a2 (n + 1) c2)).setCell 5 (.int .i64 zr.p)
                            have e9 : ((FilZ N o p2 q0 s t ⟨a, n, c⟩).cells.toArray.setIfInBounds 14 (.slice a2 (n + 1) c2)).setIfInBounds 5 (.int .i64 zr.p) = (FilZ N o zr.p q0 s t ⟨a2, n + 1, c2⟩).cells.toArray := by simp [FilZ, Ac.cells]
                            rw [e9] at h9
                            refine ⟨x + 1, n + 1, c2, p3, o, zr.p, q0, s, t, a2, fs, cl, es ++ [⟨zr.f, dd⟩], vs ++ [.int .i64 zr.f, .int .i64 dd], J, by go_num, by have := HX.out; omega, by have := HX.out; omega, Lib.hid ⟨⟨hg.1, HZR.out.1.2.2.1, hg.2.2⟩, by rw [List.length_append, ← hn]; rfl, rows_snoc hrows (show rEa.rel J [.int .i64 zr.f, .int .i64 dd] ⟨zr.f, dd⟩ from rfl) rfl, ?_, by have := HP3.out; omega, by have := HP3.out; omega, ?_⟩⟩
                            · have hb := H5.out.1 (by first | trivial | rfl)
                              refine ⟨by rw [List.length_append, ← hn]; have := hb.2; show n + 1 ≤ 2; omega, ?_, ?_⟩
                              · intro e he
                                rcases List.mem_append.1 he with h | h
                                · exact hge.2.1 e h
                                · rw [List.mem_singleton.1 h]; exact ⟨HZR.out.1.1, HDD.out.1, HDD.out.2⟩
                              · refine List.pairwise_append.2 ⟨hge.2.2, List.pairwise_singleton _ _, ?_⟩
                                intro e he e' he'
                                rw [List.mem_singleton.1 he']
                                exact hb.1 e he
                            · have h10 := h9.p2.forget
                              have h9 := h10
                              simpa only [sep_comm, sep_lcomm, sep_assoc] using h9
                          case measure => simp [intOf]; have := HX.out; omega
                · have hltz : ¬ (x : Int) < 2 := by omega
                  clear hlt hN0
                  go_wp2
                  go_meet
                  case rel => 
                    obtain ⟨hg, hn, hrows, hge, hp1, hp2, hS⟩ := HL.out
                    have hsw := hS.swf_of_osl
                    obtain ⟨J', hle', hJ', h9⟩ := (show Sat W wr (sep (rsl a vs) (sep (kn J) (sep (mkr B va (pos : Int) day (.slice fa N fc)) (sep (blk q (.cells (FilZ N o p2 q0 s t ⟨a, n, c⟩).cells.toArray 37 (0, 0))) fr)))) from by
                      have h9 := hS.osl_settle
                      simpa only [sep_comm, sep_lcomm, sep_assoc] using h9).learn
                    exact ⟨o, p2, q0, s, t, ⟨a, n, c⟩, fs, cl, es, J', pos, Lib.hid ⟨⟨hg.1, hg.2.1, hg.2.2.1, (rF.slice 4).mono hle' hg.2.2.2.1, (rCl.slice 5).mono hle' hg.2.2.2.2.1, hg.2.2.2.2.2.1, Mem.le_trans hg.2.2.2.2.2.2 hle'⟩, ⟨a, c, vs, by rw [← hn]; rfl, by rw [← hn]; exact hsw, hJ', (rEa.rows 2).mono hle' hrows⟩, hge, hp1, by have := HI9.out; omega, h9.p1⟩⟩
          case rest =>
           as_aux_lemma =>
            obtain ⟨o, p2, q1, s', t', e, fs', cl', es, J, pos, HL⟩ := hcut
            clear HC0
            have hF := HL.out.2.2.2.2.2
            rw [HFR.out] at hF
            have hq : Sat W wc (sep (blk q (.cells (FilZ N o p2 q1 s' t' e).cells.toArray 37 (0, 0))) (sep (mkr B va (pos : Int) day (.slice fa N fc)) (sep (kn J) (sep (osl 37 19 fa N fc (acs zs)) (sep (blk R (.cells #[.int .i64 0, .int .i64 0, .int .i64 0, .int .i64 0, .int .i64 0, .int .i64 0, .int .i64 0, .int .i64 0, .int .i64 0, .int .i64 0, .int .i64 0, .slice none 0 0, .slice none 0 0, .slice none 0 0, .slice none 0 0, .int .i64 0, .int .i64 0, .slice none 0 0, .slice none 0 0] 37 (0, 0))) A))))) := by
              have h9 := hF
              simpa only [sep_comm, sep_lcomm, sep_assoc] using h9
            have hR2 : Sat W wc (sep (blk R (.cells #[.int .i64 0, .int .i64 0, .int .i64 0, .int .i64 0, .int .i64 0, .int .i64 0, .int .i64 0, .int .i64 0, .int .i64 0, .int .i64 0, .int .i64 0, .slice none 0 0, .slice none 0 0, .slice none 0 0, .slice none 0 0, .int .i64 0, .int .i64 0, .slice none 0 0, .slice none 0 0] 37 (0, 0))) (sep (mkr B va (pos : Int) day (.slice fa N fc)) (sep (osl 37 19 fa N fc (acs zs)) (sep (kn J) A)))) := by
              have h9 := hq.forget
              simpa only [sep_comm, sep_lcomm, sep_assoc] using h9
            obtain ⟨z, hz⟩ : ∃ z, z = FilZ N o p2 q1 s' t' e := ⟨_, rfl⟩
            rw [← hz] at hq
            have hld : Sem.run Tryz.prog (ldAct (.pointer (some ⟨q, 0, none⟩))) wc = .ok (.agg z.cells.toArray) wc := run_ldAct fun i v hv => (act_fr hq i v hv).1
            have hst := run_stAct hR2.blk_heap rfl z
            have hR3 := hR2.setRow z.cells.toArray
            obtain ⟨w20, hw20⟩ : ∃ w20, w20 = wc.setRow R z.cells.toArray := ⟨_, rfl⟩
            rw [← hw20] at hst hR3
            have hres := act_rd hR3
            have H20 := Lib.hid hR3
            have HZ := Lib.hid hz
            clear hF hq hR2 hR3 hz hw20
            go_wp2
            exact bodyPost_ret (v := .agg z.cells.toArray) (by simp [results, Tryz.results12, go_sem, ↓sizeAct, hres]) rfl ⟨z, _, J, pos, rfl, by
              rw [HZ.out]
              exact FilZ_isA N o p2 q1 HL.out.1.2.2.2.1 HL.out.1.2.2.2.2.1 HL.out.2.1, ⟨o, p2, q1, fs', cl', es, rfl, HL.out.1.1, HL.out.1.2.1, HL.out.1.2.2.1, HL.out.1.2.2.2.2.2.1, HL.out.2.2.1⟩, HL.out.1.2.2.2.2.2.2, HL.out.2.2.2.1, by have := HL.out.2.2.2.2.1; omega, H20.out.forget⟩
          /-VED4-/
end Go.Proofs.YtodipneapffjdaaGreatDoor
