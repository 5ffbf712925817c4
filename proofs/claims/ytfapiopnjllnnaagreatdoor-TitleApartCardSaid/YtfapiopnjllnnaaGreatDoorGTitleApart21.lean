/- Package title: filed (where it finds the filing), its closure, slices.IndexFunc; ofFile. -/
import Derived.Test.YtfapiopnjllnnaaGreatDoorGTitleApart20
namespace Go.Proofs.YtfapiopnjllnnaaGreatDoor
open Go.RowKit PA
attribute [local go_sem ↓] sizeAct
/-- An act of a settled row. -/
theorem rsl_ld {J : Mem} {g : Nat} {ys : List Ac} (hc : cellsAt (some ⟨g, 0, none⟩) (acs ys) J) {w' : World} (he : Ext J w') (i : Nat) (hi : i < ys.length) : Sem.run Tryz.prog (loadCellsFrom ⟨g, i * 19, none⟩ 0 kA #[]) w' = .ok ys[i].cells.toArray w' := by
  have hne : acs ys ≠ [] := fun e => by have := congrArg List.length e; rw [acs_len, List.length_nil] at this; omega
  obtain ⟨b, o, e, hcell⟩ := cells_ext hc hne
  cases e
  have hl : ys[i].cells.length = kA := rfl
  have := run_loadCells_list (P := Tryz.prog) w' ⟨g, i * 19, none⟩ ys[i].cells (fun j v hj => by
    have hjl : j < 19 := (List.getElem?_eq_some_iff.1 hj).1
    have e : (⟨g, i * 19, none⟩ : Addr).add j = ⟨g, i * 19 + j, none⟩ := by unfold Addr.add; split <;> simp_all
    rw [e]
    have h2 := hcell w' he (i * 19 + j) v (by rw [acs_at ys i hi j hjl]; exact hj)
    rw [Nat.zero_add] at h2
    exact h2)
  rw [hl] at this
  exact this
theorem act_box (w : World) (x : Ac) (i : Nat) : (w.alloc (.cells x.cells.toArray 57)).cell? ⟨w.heap.size, i, none⟩ = x.cells[i]? := by
  rw [World.cell?_alloc_new]
  simp
theorem filed1_spec {W w : World} {A : Assn} {J : Mem} (file : Int) (Bf : Nat) (hJ : J Bf = some (.cells #[.int .i64 file] 3 (0, 0))) (x : Ac) (h : Sat W w (sep (kn J) A)) :
    Calls Tryz.prog 76 #[.agg x.cells.toArray, .pointer (some ⟨Bf, 0, none⟩)] w fun e w' => e = .returned (.bool (isFiling file x)) ∧ Sat W w' (sep (kn J) A) := by
  have h1 := h.alloc0 (.cells x.cells.toArray 57)
  have c0 : (w.alloc (.cells x.cells.toArray 57)).cell? ⟨w.heap.size, 0, none⟩ = some (.int .i64 x.k) := act_box w x 0
  have c3 : (w.alloc (.cells x.cells.toArray 57)).cell? ⟨w.heap.size, 3, none⟩ = some (.int .i64 x.f) := act_box w x 3
  have cf : (w.alloc (.cells x.cells.toArray 57)).cell? ⟨Bf, 0, none⟩ = some (.int .i64 file) := by rw [cell_of_row _ Bf 0 _ _ _ (h1.ext _ _ hJ)]; rfl
  have H1 := Lib.hid h1
  obtain ⟨r, hr⟩ : ∃ r, r = isFiling file x := ⟨_, rfl⟩
  rw [← hr]
  unfold isFiling at hr
  have HR := Lib.hid hr
  clear h h1 hJ hr
  by_cases e1 : x.k = 0
  · by_cases e2 : x.f = file
    · go_enter Tryz.func76, Tryz.ntmps76
      go_wp2
      go_ret
      exact ⟨by rw [HR.out]; simp [e1, e2], H1.out⟩
    · have b2 : (x.f == file) = false := by simp [e2]
      have HE := Lib.hid e2
      clear e2
      go_enter Tryz.func76, Tryz.ntmps76
      go_wp2
      go_ret
      exact ⟨by rw [HR.out]; simp [HE.out], H1.out⟩
  · have b1 : (x.k == 0) = false := by simp [e1]
    have HE := Lib.hid e1
    clear e1
    go_enter Tryz.func76, Tryz.ntmps76
    go_wp2
    go_ret
    exact ⟨by rw [HR.out]; simp [HE.out], H1.out⟩
/-- The first filing's index, or -1. -/
def idxF (file : Int) (ys : List Ac) : Int := match ys.findIdx? (isFiling file) with | some i => (i : Int) | none => -1
set_option maxRecDepth 100000 in
set_option maxHeartbeats 2000000 in
theorem indexActs_spec {W w : World} {A : Assn} {J : Mem} (file : Int) (Bf : Nat) (hJ : J Bf = some (.cells #[.int .i64 file] 3 (0, 0))) (g n c : Nat) (ys : List Ac) (hn : ys.length = n) (h40 : n ≤ 65536) (hc : cellsAt (some ⟨g, 0, none⟩) (acs ys) J) (h : Sat W w (sep (kn J) A)) :
    Calls Tryz.prog 75 #[.slice (some ⟨g, 0, none⟩) n c, .func (.func 76) #[] #[.pointer (some ⟨Bf, 0, none⟩)]] w fun e w' => e = .returned (.int .i64 (idxF file ys)) ∧ Sat W w' (sep (kn J) A) := by
  obtain ⟨r, hr⟩ : ∃ r, r = idxF file ys := ⟨_, rfl⟩
  rw [← hr]
  have HR := Lib.hid hr
  have HC := Lib.hid hc
  have HJ := Lib.hid hJ
  have H := Lib.hid h
  have HN := Lib.hid hn
  clear hr hc hJ h hn
  go_enter Tryz.func75, Tryz.ntmps75
  go_wp2
  go_loopw [8] (fun kv wr => ∃ k : Nat, kv = .int .i64 k ∧ k ≤ n ∧ Hid (∀ x ∈ ys.take k, isFiling file x = false) ∧ Sat W wr (sep (kn J) A)) (fun kv _ => n - (intOf kv).toNat)
  case atStart => exact ⟨0, rfl, by omega, Lib.hid (by simp), H.out⟩
  case round =>
    obtain ⟨k, rfl, hk, HK, hS⟩ := hrel
    by_cases hlt : k < n
    · have hltz : (k : Int) < (n : Int) := by omega
      have hkl : k < ys.length := by rw [HN.out]; exact hlt
      have l1 := rsl_ld HC.out hS.ext k hkl
      obtain ⟨x, hx⟩ : ∃ x, x = ys[k] := ⟨_, rfl⟩
      rw [← hx] at l1
      have hf := filed1_spec file Bf HJ.out x hS
      obtain ⟨b, hb⟩ : ∃ b, b = isFiling file x := ⟨_, rfl⟩
      rw [← hb] at hf
      have HF := Lib.hid hf
      have HX := Lib.hid (And.intro hx hb)
      have hkI : (k : Int) < 65536 := by omega
      clear hf hx hb hS
      go_wp2_with fail
      refine HF.out.mono ?_
      rintro e w3 ⟨rfl, h3⟩
      clear l1 HF
      cases b with
      | true =>
        go_wp2
        go_ret
        refine ⟨?_, h3⟩
        have : idxF file ys = k := by
          unfold idxF
          have : ys.findIdx? (isFiling file) = some k := by
            rw [List.findIdx?_eq_some_iff_getElem]
            refine ⟨hkl, by rw [← HX.out.1, ← HX.out.2], fun j hj => ?_⟩
            have := HK.out ys[j] (by rw [List.mem_take_iff_getElem]; exact ⟨j, by omega, rfl⟩)
            rw [this]; simp
          rw [this]
        rw [HR.out, this]; rfl
      | false =>
        go_wp2
        go_roundw
        case rel =>
          refine ⟨k + 1, by go_num, by omega, Lib.hid fun y hy => ?_, h3⟩
          rw [List.take_succ_eq_append_getElem hkl] at hy
          rcases List.mem_append.1 hy with hy | hy
          · exact HK.out y hy
          · rw [List.mem_singleton.1 hy, ← HX.out.1, ← HX.out.2]
        case measure => simp [intOf]; omega
    · obtain rfl : k = n := by omega
      go_wp2
      go_ret
      refine ⟨?_, hS⟩
      have : idxF file ys = -1 := by
        unfold idxF
        have : ys.findIdx? (isFiling file) = none := by
          rw [List.findIdx?_eq_none_iff]
          intro x hx
          have := HK.out x (by rw [List.take_of_length_le (by rw [HN.out]; exact Nat.le_refl _)]; exact hx)
          rw [this]
        rw [this]
      rw [HR.out, this]; rfl
theorem act_st {W w : World} {A : Assn} {q : Nat} {cur : Array Value} (hs : cur.size = 19) (h : Sat W w (sep (blk q (.cells cur 57 (0, 0))) A)) (x : Ac) :
    ∃ w', Sem.run Tryz.prog (storeCells ⟨q, 0, none⟩ x.cells 0) w = .ok () w' ∧ Sat W w' (sep (blk q (.cells x.cells.toArray 57 (0, 0))) A) := by
  have hst := run_storeCells_at Tryz.prog q 0 57 x.cells 0 cur w h.blk_heap (by show 0 + 0 + 19 ≤ _; omega) x.one
  refine ⟨_, hst, ?_⟩
  have h2 := h.setRow (cur.toList.take (0 + 0) ++ x.cells ++ cur.toList.drop (0 + 0 + x.cells.length)).toArray
  have e : cur.toList.take (0 + 0) ++ x.cells ++ cur.toList.drop (0 + 0 + x.cells.length) = x.cells := by
    have hd : cur.toList.drop (0 + 0 + x.cells.length) = [] := List.drop_eq_nil_of_le (by rw [Array.length_toList, hs]; show 19 ≤ 0 + 0 + 19; omega)
    rw [hd, List.append_nil]; rfl
  rw [e] at h2 ⊢
  exact h2
theorem act_rd {W w : World} {A : Assn} {q : Nat} {x : Ac} {t : TypeId} {fr : Nat × Nat} (h : Sat W w (sep (blk q (.cells x.cells.toArray t fr)) A)) : Sem.run Tryz.prog (loadCellsFrom ⟨q, 0, none⟩ 0 kA #[]) w = .ok x.cells.toArray w := by
  have hl : x.cells.length = kA := rfl
  have := run_loadCells_list (P := Tryz.prog) w ⟨q, 0, none⟩ x.cells (fun j v hj => by
    have e : (⟨q, 0, none⟩ : Addr).add j = ⟨q, j, none⟩ := by unfold Addr.add; split <;> simp_all
    rw [e, Sat.cell h]
    simpa using hj)
  rw [hl] at this
  exact this
theorem act_rdI {J : Mem} {q : Nat} {x : Ac} (hJ : J q = some (.cells x.cells.toArray 57 (0, 0))) {w' : World} (he : Ext J w') : Sem.run Tryz.prog (loadCellsFrom ⟨q, 0, none⟩ 0 kA #[]) w' = .ok x.cells.toArray w' := by
  have hl : x.cells.length = kA := rfl
  have := run_loadCells_list (P := Tryz.prog) w' ⟨q, 0, none⟩ x.cells (fun j v hj => by
    have e : (⟨q, 0, none⟩ : Addr).add j = ⟨q, j, none⟩ := by unfold Addr.add; split <;> simp_all
    rw [e, act_cell hJ he]
    exact hj)
  rw [hl] at this
  exact this
theorem idxF_of {file : Int} {ys : List Ac} {f : Ac} (h : filedT file ys = some f) : ∃ i, ∃ hi : i < ys.length, idxF file ys = (i : Int) ∧ ys[i] = f := by
  unfold filedT at h
  cases e : ys.findIdx? (isFiling file) with
  | none =>
    rw [List.findIdx?_eq_none_iff] at e
    have := List.find?_some h
    have := e f (List.mem_of_find?_eq_some h)
    simp_all
  | some i =>
    obtain ⟨hi, h1, h2⟩ := List.findIdx?_eq_some_iff_getElem.1 e
    refine ⟨i, hi, by unfold idxF; rw [e], ?_⟩
    have h3 : ys.find? (isFiling file) = some ys[i] := by
      rw [List.find?_eq_some_iff_getElem]
      exact ⟨h1, i, hi, rfl, fun j hj => by have := h2 j hj; simpa using this⟩
    rw [h3] at h
    exact Option.some.inj h
set_option maxRecDepth 100000 in
set_option maxHeartbeats 2000000 in
theorem filed_ok {W w : World} {A : Assn} {J : Mem} (file day : Int) (f : Ac) (g n c : Nat) (ys : List Ac) (hn : ys.length = n) (h40 : n ≤ 65536) (hc : cellsAt (some ⟨g, 0, none⟩) (acs ys) J) (hf : filedT file ys = some f)
    (hr : titleErr file day ys = 0) (h : Sat W w (sep (kn J) A)) :
    Calls Tryz.prog 53 #[.int .i64 file, .int .i64 day, .slice (some ⟨g, 0, none⟩) n c] w fun e w' => e = .returned (.tuple #[.agg f.cells.toArray, .int .i64 0]) ∧ ∃ J', Mem.le J J' ∧ Sat W w' (sep (kn J') A) := by
  have hr2 : (0 ≤ file ∧ file ≤ 4095 ∧ 0 ≤ day ∧ day ≤ 131072) ∧ f.d ≤ day := by
    unfold titleErr at hr
    rw [hf] at hr
    split at hr
    · cases hr
    · simp only at hr
      split at hr
      · cases hr
      · omega
  obtain ⟨⟨f1, f2, d1, d2⟩, hfd⟩ := hr2
  obtain ⟨i, hi, hidx, hif⟩ := idxF_of hf
  obtain ⟨J2, hle, hJ2, h1⟩ := (h.alloc (.cells #[.int .i64 file] 3)).settle.learn
  have h2 := h1.alloc (.cells #[.int .i64 0, .int .i64 0, .int .i64 0, .int .i64 0, .int .i64 0, .int .i64 0, .int .i64 0, .int .i64 0, .int .i64 0, .int .i64 0, .int .i64 0, .slice none 0 0, .slice none 0 0, .slice none 0 0, .slice none 0 0, .int .i64 0, .int .i64 0, .slice none 0 0, .slice none 0 0] 57)
  rw [World.size_alloc] at h2
  obtain ⟨B, hB⟩ : ∃ B, B = w.heap.size := ⟨_, rfl⟩
  obtain ⟨w1, hw1⟩ : ∃ w1, w1 = (w.alloc (.cells #[.int .i64 file] 3)).alloc (.cells #[.int .i64 0, .int .i64 0, .int .i64 0, .int .i64 0, .int .i64 0, .int .i64 0, .int .i64 0, .int .i64 0, .int .i64 0, .int .i64 0, .int .i64 0, .slice none 0 0, .slice none 0 0, .slice none 0 0, .slice none 0 0, .int .i64 0, .int .i64 0, .slice none 0 0, .slice none 0 0] 57) := ⟨_, rfl⟩
  rw [← hB] at hJ2
  rw [← hB, ← hw1] at h2
  have hc2 := cellsAt_mono hle hc
  have hix := fun w' A' (h' : Sat W w' (sep (kn J2) A')) => indexActs_spec file B hJ2 g n c ys hn h40 hc2 h'
  rw [hidx] at hix
  have c0 : w1.cell? ⟨B, 0, none⟩ = some (.int .i64 file) := by rw [cell_of_row _ B 0 _ _ _ (h2.p1.ext _ _ hJ2)]; rfl
  have HIX := Lib.hid hix
  have HB := Lib.hid hB
  have HW1 := Lib.hid hw1
  have HC2 := Lib.hid hc2
  have HLE := Lib.hid hle
  have HI := Lib.hid (And.intro hidx hif)
  have H2 := Lib.hid h2
  have hin : (i : Int) < n := by omega
  clear hf hr h hc hle hJ2 h1 h2 hB hw1 hix hc2 hidx hif
  go_enter Tryz.func53, Tryz.ntmps53
  go_upto_region 1 with (fail)
  simp only [← HB.out]
  rw [← HW1.out]
  have hmf : ∀ (fn : Fn) (first cap : Array Value) (w : World), (Instr.makeFunc fn first cap).run Tryz.prog w = .ok (.func fn first cap) w := fun _ _ _ _ => rfl
  go_wp2_with fail
  refine (HIX.out _ _ H2.out.p1).mono ?_
  rintro e w3 ⟨rfl, h3⟩
  clear c0 H2 HIX
  have hcx := (rsl_ld HC2.out h3.ext i hi)
  rw [HI.out.2] at hcx
  have hcd : w3.cell? ⟨g, i * 19 + 1, none⟩ = some (.int .i64 f.d) := by
    have hne : acs ys ≠ [] := fun e => by have := congrArg List.length e; rw [acs_len, List.length_nil] at this; omega
    obtain ⟨b, o, e, hcell⟩ := cells_ext HC2.out hne
    cases e
    have := hcell w3 h3.ext (i * 19 + 1) (.int .i64 f.d) (by rw [acs_at ys i hi 1 (by omega), HI.out.2]; rfl)
    rwa [Nat.zero_add] at this
  obtain ⟨w4, s1, h4⟩ := act_st (cur := #[.int .i64 0, .int .i64 0, .int .i64 0, .int .i64 0, .int .i64 0, .int .i64 0, .int .i64 0, .int .i64 0, .int .i64 0, .int .i64 0, .int .i64 0, .slice none 0 0, .slice none 0 0, .slice none 0 0, .slice none 0 0, .int .i64 0, .int .i64 0, .slice none 0 0, .slice none 0 0]) rfl h3.p1 f
  have r1 := act_rd h4
  have H4 := Lib.hid h4
  clear h3 h4
  go_wp2
  exact bodyPost_ret (v := .tuple #[.agg f.cells.toArray, .int .i64 0]) (by simp [results, Tryz.results53, go_sem, r1]) rfl ⟨rfl, J2, HLE.out, H4.out.drop⟩
end Go.Proofs.YtfapiopnjllnnaaGreatDoor
/- slices.Index, Contains of ints; title.ofFile. -/
namespace Go.Proofs.YtfapiopnjllnnaaGreatDoor
open Go.RowKit PA
theorem indexOf_spec {W w : World} {A : Assn} (xs : List Int) (n c : Nat) (v : Int) (C : Nat) (hn : xs.length = n) (h6 : n ≤ 65536) (h : Sat W w (sep (blk C (.cells (xs.map fun z => Value.int .i64 z).toArray 3 (0, 0))) A)) :
    Calls Tryz.prog 107 #[.slice (some ⟨C, 0, none⟩) n c, .int .i64 v] w fun e w' => ∃ r, e = .returned (.int .i64 r) ∧ (0 ≤ r ↔ v ∈ xs) ∧ w = w' := by
  have H := Lib.hid h
  have HN := Lib.hid hn
  clear h hn
  go_enter Tryz.func107, Tryz.ntmps107
  go_wp2
  go_loopw [8] (fun kv wr => ∃ k : Nat, kv = .int .i64 k ∧ k ≤ n ∧ Hid (∀ x ∈ xs.take k, x ≠ v) ∧ wr = w) (fun kv _ => n - (intOf kv).toNat)
  case atStart => exact ⟨0, rfl, by omega, Lib.hid (by simp), rfl⟩
  case round =>
    obtain ⟨k, rfl, hk, HK, rfl⟩ := hrel
    by_cases hlt : k < n
    · have hltz : (k : Int) < (n : Int) := by omega
      have hkl : k < xs.length := by rw [HN.out]; exact hlt
      obtain ⟨x, hx⟩ : ∃ x, x = xs[k] := ⟨_, rfl⟩
      have c0 : wr.cell? ⟨C, k, none⟩ = some (.int .i64 x) := by rw [H.out.cell k]; simp [hkl, hx]
      have HX := Lib.hid hx
      have hkI : (k : Int) < 65536 := by omega
      clear hx
      by_cases e1 : v = x
      · subst e1
        go_wp2
        go_ret
        exact ⟨(k : Int), rfl, ⟨fun _ => by rw [HX.out]; exact List.getElem_mem hkl, fun _ => by omega⟩, rfl⟩
      · have b1 : (v == x) = false := by simp [e1]
        have HE := Lib.hid e1
        clear e1
        go_wp2
        go_roundw
        case rel =>
          refine ⟨k + 1, by go_num, by omega, Lib.hid fun y hy => ?_, by first | rfl | trivial⟩
          rw [List.take_succ_eq_append_getElem hkl] at hy
          rcases List.mem_append.1 hy with hy | hy
          · exact HK.out y hy
          · rw [List.mem_singleton.1 hy, ← HX.out]; exact fun e => HE.out e.symm
        case measure => simp [intOf]; omega
    · obtain rfl : k = n := by omega
      go_wp2
      go_ret
      refine ⟨-1, rfl, ⟨fun e => by omega, fun e => absurd rfl (HK.out v (by rw [List.take_of_length_le (by rw [HN.out]; exact Nat.le_refl _)]; exact e))⟩, by first | rfl | trivial⟩
theorem contains_spec {W w : World} {A : Assn} (xs : List Int) (n c : Nat) (v : Int) (C : Nat) (hn : xs.length = n) (h6 : n ≤ 65536) (h : Sat W w (sep (blk C (.cells (xs.map fun z => Value.int .i64 z).toArray 3 (0, 0))) A)) :
    Calls Tryz.prog 77 #[.slice (some ⟨C, 0, none⟩) n c, .int .i64 v] w fun e w' => e = .returned (.bool (decide (v ∈ xs))) ∧ w = w' := by
  have hi := Lib.hid (indexOf_spec xs n c v C hn h6 h)
  obtain ⟨b, hb⟩ : ∃ b, b = decide (v ∈ xs) := ⟨_, rfl⟩
  rw [← hb]
  have HB := Lib.hid hb
  clear h hn h6 hb
  go_enter Tryz.func77, Tryz.ntmps77
  go_wp2_with fail
  refine hi.out.mono ?_
  rintro e w2 ⟨r, rfl, hr, rfl⟩
  have HRR := Lib.hid hr
  clear hr hi
  by_cases h0 : 0 ≤ r
  · go_wp2
    go_ret
    exact ⟨by rw [HB.out, decide_eq_true (HRR.out.1 h0)]; rfl, rfl⟩
  · go_wp2
    go_ret
    refine ⟨?_, rfl⟩
    have hm : v ∉ xs := fun e => by have := HRR.out.2 e; omega
    have hz : decide (0 ≤ r) = false := decide_eq_false (by omega)
    show Ending.returned (Value.bool (decide (0 ≤ r))) = _
    rw [hz, HB.out, decide_eq_false hm]
theorem ofFile_spec {W w : World} {A : Assn} (k : Int) (h : Sat W w A) :
    Calls Tryz.prog 54 #[.int .i64 k] w fun e w' => e = .returned (.bool (ofFileB k)) ∧ Sat W w' A := by
  have h1 := h.alloc (.cells ([5, 19, 20, 21].map fun z => Value.int .i64 z).toArray 3)
  have hc := contains_spec [5, 19, 20, 21] 4 4 k w.heap.size rfl (by omega) h1
  obtain ⟨b, hb⟩ : ∃ b, b = decide (k ∈ ([5, 19, 20, 21] : List Int)) := ⟨_, rfl⟩
  rw [← hb] at hc
  have e : ofFileB k = !b := by
    rw [hb]
    unfold ofFileB
    simp only [List.mem_cons, List.not_mem_nil, or_false]
    by_cases q1 : k = 5 <;> by_cases q2 : k = 19 <;> by_cases q3 : k = 20 <;> by_cases q4 : k = 21 <;> simp_all
  rw [e]
  have HC := Lib.hid hc
  have H1 := Lib.hid h1.drop
  clear h h1 hc hb e
  go_enter Tryz.func54, Tryz.ntmps54
  go_wp2_with fail
  refine HC.out.mono ?_
  rintro e w2 ⟨rfl, rfl⟩
  go_wp2
  go_ret
  exact ⟨rfl, H1.out⟩
end Go.Proofs.YtfapiopnjllnnaaGreatDoor
