/- Ops: the operations that numbers stand for. -/
import Derived.Test.YtbniekblkbdidaaRa
namespace Go.Proofs.Ytbniekblkbdidaa
open Go.RowKit PA
/-- An operation under way in block q. -/
def opC (kd fl n : Int) (vb vk : Value) : Array Value := #[.int .i64 kd, .int .i64 fl, .int .i64 n, vb, vk]
theorem rows_mono5 {I J : Mem} {cs : List Value} {ops : List OpD} (h : Mem.le I J) (hr : (rOp.rows 5).rel I cs ops) : (rOp.rows 5).rel J cs ops := (rOp.rows 5).mono h hr
set_option maxRecDepth 100000 in
set_option maxHeartbeats 8000000 in
theorem rdops_spec {W w : World} {A : Assn} {I : Mem} (a0 : Option Addr) (n0 c0 : Nat) (l : List Int) (h : Sat W w (sep (kn I) A)) (hv : (rInt.slice 1).rel I [.slice a0 n0 c0] l) (h64 : ∀ x ∈ l, I64' x) :
    Calls Try.prog 23 #[.slice a0 n0 c0] w fun e w' => ∃ J a c ops, Mem.le I J ∧ e = .returned (.slice a ops.length c) ∧ ops.length ≤ 16 ∧ (rOp.slice 5).rel J [.slice a ops.length c] ops ∧ (∀ o ∈ ops, opOK o) ∧ Sat W w' (sep (kn J) A) := by
  have hnl : n0 = l.length := by
    obtain ⟨a', c', e, -⟩ := ints_rel.1 hv
    simp only [Value.slice.injEq] at e
    exact e.2.1
  have h1 := h.osl_nil 48 5
  have HV := Lib.hid (And.intro hv (And.intro h64 hnl))
  clear h hv h64 hnl
  go_enter Try.func23, Try.ntmps23
  go_wp2_with fail
  go_loopw [3, 4] (fun ov iv' wr => ∃ (i : Nat) (J : Mem) (a : Option Addr) (c : Nat) (vs : List Value) (ops : List OpD), i ≤ 16 ∧ iv' = .int .i64 (i : Nat) ∧ ov = .slice a i c ∧ Hid (Mem.le I J ∧ ops.length = i ∧ (rOp.rows 5).rel J vs ops ∧ ∀ o ∈ ops, opOK o) ∧ Sat W wr (sep (osl 48 5 a i c vs) (sep (kn J) A))) (fun _ iv' _ => 16 - (intOf iv').toNat)
  case atStart => exact ⟨0, I, none, 0, [], [], by omega, rfl, rfl, Lib.hid ⟨Mem.le_refl I, rfl, ⟨[], rfl, trivial⟩, fun o ho => by cases ho⟩, h1⟩
  case round =>
    clear h1
    obtain ⟨i, J, a, c, vs, ops, hi, rfl, rfl, HO, hS⟩ := hrel
    by_cases hc : i < n0 ∧ i < 16
    · obtain ⟨hi1, hi2⟩ := hc
      have hil : i < l.length := by rw [← HV.out.2.2]; exact hi1
      obtain ⟨a', c', e, -, hcl⟩ := ints_rel.1 HV.out.1
      simp only [Value.slice.injEq] at e
      obtain ⟨rfl, -, rfl⟩ := e
      obtain ⟨gb, go, rfl, hcell⟩ := cells_ext hcl (fun e => by simp at e; rw [e] at hil; simp at hil)
      obtain ⟨x, hx⟩ : ∃ x, x = l[i] := ⟨_, rfl⟩
      have hx64 : I64' x := by rw [hx]; exact HV.out.2.1 _ (List.getElem_mem hil)
      have hc1 : ∀ w', Ext J w' → w'.cell? ⟨gb, go + i, none⟩ = some (.int .i64 x) := fun w' he => hcell w' (fun b o hb => he b o (HO.out.1 _ _ hb)) i _ (by rw [List.getElem?_map, List.getElem?_eq_getElem hil, hx]; rfl)
      have hcw := hc1 wr hS.p1.ext
      obtain ⟨x16, hx16⟩ : ∃ x16, x16 = x.tdiv 16 := ⟨_, rfl⟩
      have hb16 : -9223372036854775808 ≤ x16 ∧ x16 ≤ 9223372036854775807 := by
        have h1 := hx64.1; have h2 := hx64.2
        rw [hx16]
        rcases Int.lt_or_le x 0 with hneg | hpos
        · obtain ⟨y, rfl⟩ : ∃ y : Int, x = -y := ⟨-x, by omega⟩
          rw [Int.neg_tdiv, Int.tdiv_eq_ediv_of_nonneg (by omega)]; omega
        · rw [Int.tdiv_eq_ediv_of_nonneg hpos]; omega
      have hw16 : IntKind.i64.wrap x16 = x16 := IntWalk.i64_in _ hb16
      have hd16 : x.tdiv 16 = x16 := hx16.symm
      have HC := Lib.hid hc1
      have HX := Lib.hid hx64
      have HS := Lib.hid hS
      have hi1I : (i : Int) < (n0 : Int) := by omega
      have hi2I : (i : Int) < 16 := by omega
      clear hcell hcl hx hx64 hx16 hc1 hS hil hi1
      go_wp2_with fail
      refine (around_spec x16 4096 wr hb16.1 hb16.2 (by omega) (by omega)).mono ?_
      rintro e w' ⟨rfl, rfl⟩
      have hq := aroundI_lt x16 4096 (by omega)
      obtain ⟨n, hn⟩ : ∃ n : Nat, aroundI x16 4096 = (n : Int) := ⟨(aroundI x16 4096).toNat, by omega⟩
      rw [hn] at hq ⊢
      have hn4 : n < 4096 := by omega
      clear hq hn hb16 hw16 hd16
      obtain ⟨n3, hn3⟩ : ∃ n3, n3 = n % 3 := ⟨_, rfl⟩
      have hn3I : (n : Int).tmod 3 = (n3 : Int) := by rw [Int.tmod_eq_emod_of_nonneg (by omega)]; omega
      have h2 := HS.out.alloc (.cells (opC 0 n3 0 (.slice none 0 0) (.slice none 0 0)) 48)
      obtain ⟨q, hq⟩ : ∃ q, q = wr.heap.size := ⟨_, rfl⟩
      obtain ⟨w2, hw2⟩ : ∃ w2, w2 = wr.alloc (.cells (opC 0 n3 0 (.slice none 0 0) (.slice none 0 0)) 48) := ⟨_, rfl⟩
      rw [← hq, ← hw2] at h2
      have hcw2 := HC.out w2 h2.p2.ext
      have H2 := Lib.hid h2
      have HW2 := Lib.hid (And.intro hq hw2)
      have hb := HX.out
      have hn3b : n3 < 3 := by omega
      clear h2 hq hw2 hn3 hcw
      go_upto_region 7 with (fail)
      change Code.wp _ _ _ _ (wr.alloc (.cells (opC 0 n3 0 (.slice none 0 0) (.slice none 0 0)) 48))
      rw [← HW2.out.1, ← HW2.out.2]
      go_wp2_with fail
      refine (around_spec x 16 w2 HX.out.1 HX.out.2 (by omega) (by omega)).mono ?_
      rintro e w' ⟨rfl, rfl⟩
      have hq := aroundI_lt x 16 (by omega)
      obtain ⟨k, hk⟩ : ∃ k : Nat, aroundI x 16 = (k : Int) := ⟨(aroundI x 16).toNat, by omega⟩
      rw [hk] at hq ⊢
      have hk16 : k < 16 := by omega
      clear hq hk hb hcw2 hn3I
      go_upto_block 2 with (fail)
      go_cut [] (fun wx => ∃ (KM : Mem) (o : OpD) (vb vk : Value), Hid (Mem.le J KM ∧ opOK o ∧ rBytes.rel KM [vb] o.b ∧ (rInt.slice 1).rel KM [vk] o.keep) ∧ Sat W wx (sep (blk q (.cells (opC o.kind o.file o.n vb vk) 48 (0, 0))) (sep (osl 48 5 a i c vs) (sep (kn KM) A))))
      case first =>
        have hS2 : Sat W w2 (sep (blk q (.cells (opC 0 n3 0 (.slice none 0 0) (.slice none 0 0)) 48 (0, 0))) (sep (osl 48 5 a i c vs) (sep (kn J) A))) := H2.out
        have c0' : w2.cell? ⟨q, 0, none⟩ = some (.int .i64 0) := hS2.cell 0
        have f0 := hS2.unfrozen 0
        have c2' : w2.cell? ⟨q, 2, none⟩ = some (.int .i64 0) := hS2.cell 2
        have f2 := hS2.unfrozen 2
        have done0 : ∀ (kd nn : Int), I64' nn → ∃ (KM : Mem) (o : OpD) (vb vk : Value), Hid (Mem.le J KM ∧ opOK o ∧ rBytes.rel KM [vb] o.b ∧ (rInt.slice 1).rel KM [vk] o.keep) ∧ Sat W ((w2.setCell ⟨q, 0, none⟩ (.int .i64 kd)).setCell ⟨q, 2, none⟩ (.int .i64 nn)) (sep (blk q (.cells (opC o.kind o.file o.n vb vk) 48 (0, 0))) (sep (osl 48 5 a i c vs) (sep (kn KM) A))) := fun kd nn hnn =>
          ⟨J, ⟨kd, n3, nn, [], []⟩, .slice none 0 0, .slice none 0 0, Lib.hid ⟨Mem.le_refl J, ⟨hnn, by simp, fun x hx => by cases hx⟩, nilB J, nilI J⟩, (hS2.setCell 0 (.int .i64 kd)).setCell 2 (.int .i64 nn)⟩
        have done1 : ∀ (kd : Int), ∃ (KM : Mem) (o : OpD) (vb vk : Value), Hid (Mem.le J KM ∧ opOK o ∧ rBytes.rel KM [vb] o.b ∧ (rInt.slice 1).rel KM [vk] o.keep) ∧ Sat W (w2.setCell ⟨q, 0, none⟩ (.int .i64 kd)) (sep (blk q (.cells (opC o.kind o.file o.n vb vk) 48 (0, 0))) (sep (osl 48 5 a i c vs) (sep (kn KM) A))) := fun kd =>
          ⟨J, ⟨kd, n3, 0, [], []⟩, .slice none 0 0, .slice none 0 0, Lib.hid ⟨Mem.le_refl J, ⟨(show I64' 0 from ⟨by omega, by omega⟩), by simp, fun x hx => by cases hx⟩, nilB J, nilI J⟩, hS2.setCell 0 (.int .i64 kd)⟩
        have D0 := Lib.hid done0
        have D1 := Lib.hid done1
        clear done0 done1
        by_cases hk1 : k = 0 ∨ k = 1
        · clear hS2
          rcases hk1 with rfl | rfl
          · go_wp2_with fail
            go_meet
            exact D1.out 1
          · go_wp2_with fail
            go_meet
            exact D1.out 1
        · by_cases hk2 : k = 2
          · subst hk2
            obtain ⟨q1, hq1⟩ : ∃ q1, q1 = n / 3 := ⟨_, rfl⟩
            obtain ⟨r1, hr1⟩ : ∃ r1, r1 = q1 % 9 := ⟨_, rfl⟩
            have e1 : (n : Int).tdiv 3 = (q1 : Int) := by rw [Int.tdiv_eq_ediv_of_nonneg (by omega)]; omega
            have e2 : (q1 : Int).tmod 9 = (r1 : Int) := by rw [Int.tmod_eq_emod_of_nonneg (by omega)]; omega
            have b1 : q1 ≤ 4096 := by omega
            have b2 : r1 ≤ 9 := by omega
            clear hS2 hk1 hq1 hr1
            go_wp2_with fail
            go_meet
            exact D0.out 2 ((r1 : Int) - 1) ⟨by omega, by omega⟩
          · by_cases hk3 : k = 3
            · subst hk3
              obtain ⟨q1, hq1⟩ : ∃ q1, q1 = n / 3 := ⟨_, rfl⟩
              obtain ⟨r1, hr1⟩ : ∃ r1, r1 = q1 % 7 := ⟨_, rfl⟩
              have e1 : (n : Int).tdiv 3 = (q1 : Int) := by rw [Int.tdiv_eq_ediv_of_nonneg (by omega)]; omega
              have e2 : (q1 : Int).tmod 7 = (r1 : Int) := by rw [Int.tmod_eq_emod_of_nonneg (by omega)]; omega
              have b1 : q1 ≤ 4096 := by omega
              have b2 : r1 ≤ 9 := by omega
              clear hS2 hk1 hk2 hq1 hr1
              go_wp2_with fail
              go_meet
              exact D0.out 3 ((r1 : Int) - 1) ⟨by omega, by omega⟩
            · by_cases hk4 : k = 4 ∨ k = 5
              · have hk45 : k = 4 ∨ k = 5 := hk4
                obtain ⟨q1, hq1⟩ : ∃ q1, q1 = n / 4 := ⟨_, rfl⟩
                obtain ⟨r1, hr1⟩ : ∃ r1, r1 = q1 % 40 := ⟨_, rfl⟩
                have e1 : (n : Int).tdiv 4 = (q1 : Int) := by rw [Int.tdiv_eq_ediv_of_nonneg (by omega)]; omega
                have e2 : (q1 : Int).tmod 40 = (r1 : Int) := by rw [Int.tmod_eq_emod_of_nonneg (by omega)]; omega
                obtain ⟨t1, ht1⟩ : ∃ t1, t1 = n % 5 := ⟨_, rfl⟩
                have e3 : (n : Int).tmod 5 = (t1 : Int) := by rw [Int.tmod_eq_emod_of_nonneg (by omega)]; omega
                obtain ⟨t2, ht2⟩ : ∃ t2, t2 = n / 5 := ⟨_, rfl⟩
                have e4 : (n : Int).tdiv 5 = (t2 : Int) := by rw [Int.tdiv_eq_ediv_of_nonneg (by omega)]; omega
                obtain ⟨t3, ht3⟩ : ∃ t3, t3 = t2 % 5 := ⟨_, rfl⟩
                have e5 : (t2 : Int).tmod 5 = (t3 : Int) := by rw [Int.tmod_eq_emod_of_nonneg (by omega)]; omega
                obtain ⟨t4, ht4⟩ : ∃ t4, t4 = n / 25 := ⟨_, rfl⟩
                have e6 : (n : Int).tdiv 25 = (t4 : Int) := by rw [Int.tdiv_eq_ediv_of_nonneg (by omega)]; omega
                obtain ⟨t5, ht5⟩ : ∃ t5, t5 = t4 % 5 := ⟨_, rfl⟩
                have e7 : (t4 : Int).tmod 5 = (t5 : Int) := by rw [Int.tmod_eq_emod_of_nonneg (by omega)]; omega
                obtain ⟨t6, ht6⟩ : ∃ t6, t6 = n / 125 := ⟨_, rfl⟩
                have e8 : (n : Int).tdiv 125 = (t6 : Int) := by rw [Int.tdiv_eq_ediv_of_nonneg (by omega)]; omega
                obtain ⟨t7, ht7⟩ : ∃ t7, t7 = t6 % 4 := ⟨_, rfl⟩
                have e9 : (t6 : Int).tmod 4 = (t7 : Int) := by rw [Int.tmod_eq_emod_of_nonneg (by omega)]; omega
                have b1 : q1 ≤ 4096 := by omega
                have b2 : r1 ≤ 40 := by omega
                have b3 : t1 ≤ 4 := by omega
                have b4 : t2 ≤ 4096 := by omega
                have b5 : t3 ≤ 4 := by omega
                have b6 : t4 ≤ 4096 := by omega
                have b7 : t5 ≤ 4 := by omega
                have b8 : t6 ≤ 4096 := by omega
                have b9 : t7 ≤ 3 := by omega
                have g1 : (t7 : Int) ≤ 3 := by omega
                have g0 : (0 : Int) ≤ (t7 : Int) := by omega
                have hS3 := (hS2.setCell 0 (.int .i64 4)).setCell 2 (.int .i64 ((r1 : Int) - 4))
                obtain ⟨w3, hw3⟩ : ∃ w3, w3 = (w2.setCell ⟨q, 0, none⟩ (.int .i64 4)).setCell ⟨q, 2, none⟩ (.int .i64 ((r1 : Int) - 4)) := ⟨_, rfl⟩
                have hS3' : Sat W w3 (sep (blk q (.cells (opC 4 n3 ((r1 : Int) - 4) (.slice none 0 0) (.slice none 0 0)) 48 (0, 0))) (sep (osl 48 5 a i c vs) (sep (kn J) A))) := by rw [hw3]; exact hS3
                obtain ⟨KM, hJK, hri, hS4⟩ := litI hS3'.p2 [(t1 : Int) - 1, (t3 : Int), (t5 : Int)] 3 (by simp [maxLen])
                obtain ⟨w4, hw4⟩ : ∃ w4, w4 = w3.alloc (.cells #[.int .i64 ((t1 : Int) - 1), .int .i64 (t3 : Int), .int .i64 (t5 : Int)] 3) := ⟨_, rfl⟩
                have hS5 : Sat W w4 (sep (blk q (.cells (opC 4 n3 ((r1 : Int) - 4) (.slice none 0 0) (.slice none 0 0)) 48 (0, 0))) (sep (osl 48 5 a i c vs) (sep (kn KM) A))) := by
                  have : Sat W w4 (sep (kn KM) (sep (blk q (.cells (opC 4 n3 ((r1 : Int) - 4) (.slice none 0 0) (.slice none 0 0)) 48 (0, 0))) (sep (osl 48 5 a i c vs) A))) := by rw [hw4]; exact hS4
                  simpa only [sep_comm, sep_lcomm, sep_assoc] using this
                obtain ⟨gg, hgg⟩ : ∃ gg, gg = w3.heap.size := ⟨_, rfl⟩
                rw [← hgg] at hri
                have hri' : (rInt.slice 1).rel KM [.slice (some ⟨gg, 0, none⟩) 3 3] [(t1 : Int) - 1, (t3 : Int), (t5 : Int)] := hri
                obtain ⟨hrt, -, -⟩ := rel_takeI t7 (by omega) hri'
                have z4 : w4.cell? ⟨q, 4, none⟩ = some (.slice none 0 0) := hS5.cell 4
                have fz4 := hS5.unfrozen 4
                have hS6 := hS5.setCell 4 (.slice (some ⟨gg, 0, none⟩) 3 3)
                obtain ⟨w5, hw5⟩ : ∃ w5, w5 = w4.setCell ⟨q, 4, none⟩ (.slice (some ⟨gg, 0, none⟩) 3 3) := ⟨_, rfl⟩
                have hS6' : Sat W w5 (sep (blk q (.cells (opC 4 n3 ((r1 : Int) - 4) (.slice none 0 0) (.slice (some ⟨gg, 0, none⟩) 3 3)) 48 (0, 0))) (sep (osl 48 5 a i c vs) (sep (kn KM) A))) := by rw [hw5]; exact hS6
                have y4 : w5.cell? ⟨q, 4, none⟩ = some (.slice (some ⟨gg, 0, none⟩) 3 3) := hS6'.cell 4
                have fy4 := hS6'.unfrozen 4
                have hfin : ∃ (KM : Mem) (o : OpD) (vb vk : Value), Hid (Mem.le J KM ∧ opOK o ∧ rBytes.rel KM [vb] o.b ∧ (rInt.slice 1).rel KM [vk] o.keep) ∧ Sat W (w5.setCell ⟨q, 4, none⟩ (.slice (some ⟨gg, 0, none⟩) t7 3)) (sep (blk q (.cells (opC o.kind o.file o.n vb vk) 48 (0, 0))) (sep (osl 48 5 a i c vs) (sep (kn KM) A))) :=
                  ⟨KM, ⟨4, n3, (r1 : Int) - 4, [], [(t1 : Int) - 1, (t3 : Int), (t5 : Int)].take t7⟩, .slice none 0 0, .slice (some ⟨gg, 0, none⟩) t7 3, Lib.hid ⟨hJK, ⟨(show I64' ((r1 : Int) - 4) from ⟨by omega, by omega⟩), by simp, fun x hx => by
                    have := List.mem_of_mem_take hx
                    simp at this
                    rcases this with rfl | rfl | rfl <;> exact ⟨by omega, by omega⟩⟩, nilB KM, hrt⟩, hS6'.setCell 4 (.slice (some ⟨gg, 0, none⟩) t7 3)⟩
                rw [hw4] at z4 fz4 hw5
                rw [hgg] at hw5
                have HFIN := Lib.hid hfin
                have HW3 := Lib.hid hw3
                have HW5 := Lib.hid hw5
                have HGG := Lib.hid hgg
                clear hS2 hS3 hS3' hS4 hS5 hS6 hS6' hri hri' hrt hfin hw3 hw4 hw5 hgg hq1 hr1 ht1 ht2 ht3 ht4 ht5 ht6 ht7 hk1 hk2 hk3 hk4
                rcases hk45 with rfl | rfl
                · go_upto_region 25 with (fail)
                  rw [← HW3.out]
                  go_upto_region 26 with (fail)
                  rw [← HW5.out, ← HGG.out]
                  clear z4 fz4
                  go_wp2_with fail
                  go_meet
                  exact HFIN.out
                · go_upto_region 25 with (fail)
                  rw [← HW3.out]
                  go_upto_region 26 with (fail)
                  rw [← HW5.out, ← HGG.out]
                  clear z4 fz4
                  go_wp2_with fail
                  go_meet
                  exact HFIN.out
              · by_cases hk6 : k = 6
                · subst hk6
                  obtain ⟨r1, hr1⟩ : ∃ r1, r1 = n % 70 := ⟨_, rfl⟩
                  have e1 : (n : Int).tmod 70 = (r1 : Int) := by rw [Int.tmod_eq_emod_of_nonneg (by omega)]; omega
                  have b2 : r1 ≤ 70 := by omega
                  have c1' : w2.cell? ⟨q, 1, none⟩ = some (.int .i64 (n3 : Nat)) := hS2.cell 1
                  have f1 := hS2.unfrozen 1
                  have hS3 := hS2.setCell 1 (.int .i64 ((r1 : Int) - 3))
                  obtain ⟨w3, hw3⟩ : ∃ w3, w3 = w2.setCell ⟨q, 1, none⟩ (.int .i64 ((r1 : Int) - 3)) := ⟨_, rfl⟩
                  have hS3' : Sat W w3 (sep (blk q (.cells (opC 0 ((r1 : Int) - 3) 0 (.slice none 0 0) (.slice none 0 0)) 48 (0, 0))) (sep (osl 48 5 a i c vs) (sep (kn J) A))) := by rw [hw3]; exact hS3
                  obtain ⟨KM, hJK, hrb, hS4⟩ := litB hS3'.p2 [1] 5 (by simp [maxLen])
                  have hS5 : Sat W (w3.alloc (.cells #[.int .u8 1] 5)) (sep (blk q (.cells (opC 0 ((r1 : Int) - 3) 0 (.slice none 0 0) (.slice none 0 0)) 48 (0, 0))) (sep (osl 48 5 a i c vs) (sep (kn KM) A))) := by
                    have : Sat W (w3.alloc (.cells #[.int .u8 1] 5)) (sep (kn KM) (sep (blk q (.cells (opC 0 ((r1 : Int) - 3) 0 (.slice none 0 0) (.slice none 0 0)) 48 (0, 0))) (sep (osl 48 5 a i c vs) A))) := hS4
                    simpa only [sep_comm, sep_lcomm, sep_assoc] using this
                  have z3 : (w3.alloc (.cells #[.int .u8 1] 5)).cell? ⟨q, 3, none⟩ = some (.slice none 0 0) := hS5.cell 3
                  have fz3 := hS5.unfrozen 3
                  have hfin : ∃ (KM : Mem) (o : OpD) (vb vk : Value), Hid (Mem.le J KM ∧ opOK o ∧ rBytes.rel KM [vb] o.b ∧ (rInt.slice 1).rel KM [vk] o.keep) ∧ Sat W ((w3.alloc (.cells #[.int .u8 1] 5)).setCell ⟨q, 3, none⟩ (.slice (some ⟨w3.heap.size, 0, none⟩) 1 1)) (sep (blk q (.cells (opC o.kind o.file o.n vb vk) 48 (0, 0))) (sep (osl 48 5 a i c vs) (sep (kn KM) A))) :=
                    ⟨KM, ⟨0, (r1 : Int) - 3, 0, [1], []⟩, .slice (some ⟨w3.heap.size, 0, none⟩) 1 1, .slice none 0 0, Lib.hid ⟨hJK, ⟨(show I64' 0 from ⟨by omega, by omega⟩), by simp, fun x hx => by cases hx⟩, hrb, nilI KM⟩, hS5.setCell 3 (.slice (some ⟨w3.heap.size, 0, none⟩) 1 1)⟩
                  have HFIN := Lib.hid hfin
                  have HW3 := Lib.hid hw3
                  clear hS2 hS3 hS3' hS4 hS5 hrb hfin hw3 hr1 hk1 hk2 hk3 hk4
                  go_upto_region 29 with (fail)
                  rw [← HW3.out]
                  go_wp2_with fail
                  go_meet
                  exact HFIN.out
                · have b0 : ((k : Int) == 0) = false := by simp; omega
                  have b1 : ((k : Int) == 1) = false := by simp; omega
                  have b2 : ((k : Int) == 2) = false := by simp; omega
                  have b3 : ((k : Int) == 3) = false := by simp; omega
                  have b4 : ((k : Int) == 4) = false := by simp; omega
                  have b5 : ((k : Int) == 5) = false := by simp; omega
                  have b6 : ((k : Int) == 6) = false := by simp; omega
                  obtain ⟨q1, hq1⟩ : ∃ q1, q1 = n / 3 := ⟨_, rfl⟩
                  obtain ⟨r1, hr1⟩ : ∃ r1, r1 = q1 % 6 := ⟨_, rfl⟩
                  have e1 : (n : Int).tdiv 3 = (q1 : Int) := by rw [Int.tdiv_eq_ediv_of_nonneg (by omega)]; omega
                  have e2 : (q1 : Int).tmod 6 = (r1 : Int) := by rw [Int.tmod_eq_emod_of_nonneg (by omega)]; omega
                  have bq : q1 ≤ 4096 := by omega
                  have br : r1 ≤ 6 := by omega
                  have HS2 := Lib.hid (hS2.osl_nil 5 1)
                  clear hS2 hq1 hr1 hk1 hk2 hk3 hk4 hk6 c0' f0 c2' f2 D0 D1
                  go_wp2_with fail
                  go_loopw [7] (fun kv wr => ∃ (y : Nat) (bs : List UInt8) (a5 : Option Addr) (c5 : Nat) (vs5 : List Value), y ≤ r1 ∧ kv = .int .i64 (y : Nat) ∧ Hid (bs.length = y ∧ vs5 = bs.map bv) ∧ Sat W wr (sep (osl 5 1 a5 y c5 vs5) (sep (blk q (.cells (opC 0 n3 0 (.slice a5 y c5) (.slice none 0 0)) 48 (0, 0))) (sep (osl 48 5 a i c vs) (sep (kn J) A))))) (fun kv _ => r1 - (intOf kv).toNat)
                  case atStart => exact ⟨0, [], none, 0, [], by omega, rfl, Lib.hid ⟨rfl, rfl⟩, HS2.out⟩
                  case round =>
                    clear HS2
                    obtain ⟨y, bs, a5, c5, vs5, hy, rfl, HB, hS⟩ := hrel
                    by_cases hyr : y < r1
                    · have hyI : (y : Int) < (r1 : Int) := by omega
                      have hS0 : wr.drew.cell? ⟨q, 3, none⟩ = some (.slice a5 y c5) := hS.drew.p1.cell 3
                      have hcx := HC.out wr.drew hS.drew.p3.ext
                      obtain ⟨bx, hbx⟩ : ∃ bx : UInt8, IntKind.u8.wrap (x / 2 ^ min (IntKind.u64.wrap (y : Int)).toNat 64) = (bx.toNat : Int) := by
                        obtain ⟨z, hz⟩ : ∃ z, z = IntKind.u8.wrap (x / 2 ^ min (IntKind.u64.wrap (y : Int)).toNat 64) := ⟨_, rfl⟩
                        have hz2 : 0 ≤ z ∧ z < 256 := by
                          rw [hz]
                          show 0 ≤ (x / 2 ^ min (IntKind.u64.wrap (y : Int)).toNat 64) % 256 ∧ (x / 2 ^ min (IntKind.u64.wrap (y : Int)).toNat 64) % 256 < 256
                          exact ⟨Int.emod_nonneg _ (by omega), Int.emod_lt_of_pos _ (by omega)⟩
                        refine ⟨UInt8.ofNat z.toNat, ?_⟩
                        rw [← hz, UInt8.toNat_ofNat']
                        omega
                      have H7 : Hid (Sat W ((wr.alloc (.cells #[.int .u8 (bx.toNat : Nat)] 5)).drew) (sep (blk wr.heap.size (.cells #[.int .u8 (bx.toNat : Nat)] 5 (0, 0))) (sep (osl 5 1 a5 y c5 vs5) (sep (blk q (.cells (opC 0 n3 0 (.slice a5 y c5) (.slice none 0 0)) 48 (0, 0))) (sep (osl 48 5 a i c vs) (sep (kn J) A)))))) := Lib.hid (hS.alloc (.cells #[.int .u8 (bx.toNat : Nat)] 5)).drew
                      have hy0 : (0 : Int) ≤ (y : Int) := by omega
                      clear hS
                      go_wp2_with fail
                      refine wp_region_canon rfl (fun w' => w'.cell? ⟨q, 3, none⟩ = some (.slice a5 y c5)) [(0, .p), (1, .s), (2, .p), (3, .p), (4, .p), (5, .t), (6, .p), (7, .p), (8, .p), (9, .p), (10, .e true), (11, .e false), (12, .p), (13, .e false)] (by kernel_rfl) ?_
                      (repeat (first | (refine C_p (v := ?_) rfl rfl (fun w' => ?_) ?_; rotate_left; (go_simp; with_reducible rfl); simp only [Act.put, List.setIfInBounds_toArray, List.set_cons_zero, List.set_cons_succ]) | (refine C_s (v := ?_) rfl rfl hS0 (fun w' hS => ?_) ?_; rotate_left; ((try dsimp only at hS); go_simp; with_reducible rfl); simp only [Act.put, List.setIfInBounds_toArray, List.set_cons_zero, List.set_cons_succ]) | (refine C_t (v := ?_) rfl rfl ?_ ?_; rotate_left; (go_simp; with_reducible rfl); simp only [Act.put, List.setIfInBounds_toArray, List.set_cons_zero, List.set_cons_succ]) | (refine C_po rfl rfl ?_; simp only [Act.put, List.setIfInBounds_toArray, List.set_cons_zero, List.set_cons_succ]) | (refine C_so rfl rfl hS0 ?_; simp only [Act.put, List.setIfInBounds_toArray, List.set_cons_zero, List.set_cons_succ]) | (refine C_to rfl rfl ?_; simp only [Act.put, List.setIfInBounds_toArray, List.set_cons_zero, List.set_cons_succ])))
                      (refine C_e rfl rfl (fun K hK => ?_); go_simp)
                      have hS0 : ((wr.alloc (.cells #[.int .u8 (bx.toNat : Nat)] 5)).drew).cell? ⟨q, 3, none⟩ = some (.slice a5 y c5) := H7.out.p2.cell 3
                      (refine hK _ _ (fun _ => hS0) ?_; clear hK K; (try simp only [Act.put, List.setIfInBounds_toArray, List.set_cons_zero, List.set_cons_succ]))
                      refine C_e rfl rfl (fun K hK => ?_)
                      refine wp_append_osl (.tmp 40) (.tmp 49) 27 rfl 5 1 1 (.int .u8 0) Try.underlying27 infoU8d rfl rfl H7.out.p1 rfl [.int .u8 (bx.toNat : Nat)] rfl (by simp) (by intro b hb; cases hb; exact new_src _ [_] _) (by simp [Value.oneCell']) (by omega) (by unfold maxLen; omega) ?_
                      intro a6 c6 w6 h8
                      have h9 := h8.p1.drop
                      have z3 : w6.cell? ⟨q, 3, none⟩ = some (.slice a5 y c5) := h9.p1.cell 3
                      have fz3 := h9.p1.unfrozen 3
                      have h10 := h9.p1.setCell 3 (.slice a6 (y + 1) c6)
                      have h11 : Sat W (w6.setCell ⟨q, 3, none⟩ (.slice a6 (y + 1) c6)) (sep (osl 5 1 a6 (y + 1) c6 (vs5 ++ [.int .u8 (bx.toNat : Nat)])) (sep (blk q (.cells (opC 0 n3 0 (.slice a6 (y + 1) c6) (.slice none 0 0)) 48 (0, 0))) (sep (osl 48 5 a i c vs) (sep (kn J) A)))) := h10.p1
                      have H11 := Lib.hid h11
                      clear h8 h9 h10 h11 H7
                      (refine hK _ _ (fun h => by cases h) ?_; clear hK K; (try simp only [Act.put, List.setIfInBounds_toArray, List.set_cons_zero, List.set_cons_succ]))
                      (repeat (first | (refine C_p (v := ?_) rfl rfl (fun w' => ?_) ?_; rotate_left; (go_simp; with_reducible rfl); simp only [Act.put, List.setIfInBounds_toArray, List.set_cons_zero, List.set_cons_succ]) | (refine C_s (v := ?_) rfl rfl hS0 (fun w' hS => ?_) ?_; rotate_left; ((try dsimp only at hS); go_simp; with_reducible rfl); simp only [Act.put, List.setIfInBounds_toArray, List.set_cons_zero, List.set_cons_succ]) | (refine C_t (v := ?_) rfl rfl ?_ ?_; rotate_left; (go_simp; with_reducible rfl); simp only [Act.put, List.setIfInBounds_toArray, List.set_cons_zero, List.set_cons_succ]) | (refine C_po rfl rfl ?_; simp only [Act.put, List.setIfInBounds_toArray, List.set_cons_zero, List.set_cons_succ]) | (refine C_so rfl rfl hS0 ?_; simp only [Act.put, List.setIfInBounds_toArray, List.set_cons_zero, List.set_cons_succ]) | (refine C_to rfl rfl ?_; simp only [Act.put, List.setIfInBounds_toArray, List.set_cons_zero, List.set_cons_succ])))
                      (refine C_e rfl rfl (fun K hK => ?_); go_simp)
                      clear z3 fz3 hS0 hcx hbx
                      (refine hK _ _ (fun h => by cases h) ?_; clear hK K; (try simp only [Act.put, List.setIfInBounds_toArray, List.set_cons_zero, List.set_cons_succ]))
                      refine C_nil ?_
                      go_wp2_with fail
                      go_roundw
                      case rel => exact ⟨y + 1, bs ++ [bx], a6, c6, _, by omega, rfl, Lib.hid ⟨by rw [List.length_append, HB.out.1]; rfl, by rw [List.map_append, HB.out.2]; rfl⟩, H11.out⟩
                      case measure => simp only [intOf]; omega
                    · have hyI : ¬ (y : Int) < (r1 : Int) := by omega
                      have hfin : ∃ (KM : Mem) (o : OpD) (vb vk : Value), Hid (Mem.le J KM ∧ opOK o ∧ rBytes.rel KM [vb] o.b ∧ (rInt.slice 1).rel KM [vk] o.keep) ∧ Sat W wr (sep (blk q (.cells (opC o.kind o.file o.n vb vk) 48 (0, 0))) (sep (osl 48 5 a i c vs) (sep (kn KM) A))) := by
                        rw [HB.out.2] at hS
                        obtain ⟨KM, hJK, hrb, h2⟩ := (show Sat W wr (sep (rBytes.is [.slice a5 y c5] bs) (sep (kn J) (sep (blk q (.cells (opC 0 n3 0 (.slice a5 y c5) (.slice none 0 0)) 48 (0, 0))) (sep (osl 48 5 a i c vs) A)))) from by
                          have := hS.bytes_of_osl.2
                          simpa only [sep_comm, sep_lcomm, sep_assoc] using this).learn
                        refine ⟨KM, ⟨0, n3, 0, bs, []⟩, .slice a5 y c5, .slice none 0 0, Lib.hid ⟨hJK, ⟨(show I64' 0 from ⟨by omega, by omega⟩), by show bs.length ≤ 1000000; rw [HB.out.1]; omega, fun x hx => by cases hx⟩, hrb, nilI KM⟩, ?_⟩
                        show Sat W wr (sep (blk q (.cells (opC 0 n3 0 (.slice a5 y c5) (.slice none 0 0)) 48 (0, 0))) (sep (osl 48 5 a i c vs) (sep (kn KM) A)))
                        simpa only [sep_comm, sep_lcomm, sep_assoc] using h2
                      have HFIN := Lib.hid hfin
                      clear hS hfin
                      go_wp2_with fail
                      go_meet
                      exact HFIN.out
      case rest =>
        obtain ⟨KM, o, vb, vk, HR, h3⟩ := hcut
        obtain ⟨kd, fl, nn, ob, ok⟩ := o
        dsimp only at HR h3
        obtain ⟨ba, bc, hvb, -⟩ := slice_f HR.out.2.2.1
        obtain ⟨ka, nk, kc, hvk⟩ := intsK_form HR.out.2.2.2
        obtain ⟨bl, hbl⟩ : ∃ bl, bl = ob.length := ⟨_, rfl⟩
        rw [← hbl] at hvb
        subst hvb
        subst hvk
        have q0 : wc.cell? ⟨q, 0, none⟩ = some (.int .i64 kd) := h3.cell 0
        have q1 : wc.cell? ⟨q, 1, none⟩ = some (.int .i64 fl) := h3.cell 1
        have q2 : wc.cell? ⟨q, 2, none⟩ = some (.int .i64 nn) := h3.cell 2
        have q3 : wc.cell? ⟨q, 3, none⟩ = some (.slice ba bl bc) := h3.cell 3
        have q4 : wc.cell? ⟨q, 4, none⟩ = some (.slice ka nk kc) := h3.cell 4
        have h4 := (h3.drop.alloc (.cells #[.int .i64 kd, .int .i64 fl, .int .i64 nn, .slice ba bl bc, .slice ka nk kc] 48)).p1
        clear h3 H2 hbl
        go_wp2_with (at_builtin; refine wpl_append_osl rfl (.tmp 107) (.tmp 109) 44 rfl 48 5 72 _ Try.underlying44 infoOp rfl rfl h4 rfl [.int .i64 kd, .int .i64 fl, .int .i64 nn, .slice ba bl bc, .slice ka nk kc] rfl (by simp) (by intro b hb; cases hb; exact new_src _ [_, _, _, _, _] _) (by simp [Value.oneCell']) (by omega) (by unfold maxLen; omega) ?_)
        intro a5 c5 w5 h5
        have h6 := h5.p1.drop
        have HF := Lib.hid h6
        have HN : Hid (Mem.le I KM ∧ (ops ++ [OpD.mk kd fl nn ob ok]).length = i + 1 ∧ (rOp.rows 5).rel KM (vs ++ [.int .i64 kd, .int .i64 fl, .int .i64 nn, .slice ba bl bc, .slice ka nk kc]) (ops ++ [OpD.mk kd fl nn ob ok]) ∧ ∀ o ∈ ops ++ [OpD.mk kd fl nn ob ok], opOK o) := Lib.hid (by
          have ho := HO.out
          have hr := HR.out
          refine ⟨Mem.le_trans ho.1 hr.1, by rw [List.length_append, ho.2.1]; rfl, rows_snoc (rows_mono5 hr.1 ho.2.2.1) ⟨_, _, rfl, hr.2.2.1, hr.2.2.2⟩ rfl, fun o hm => ?_⟩
          rcases List.mem_append.1 hm with hm | hm
          · exact ho.2.2.2 o hm
          · rw [List.mem_singleton.1 hm]; exact hr.2.1)
        clear h4 h5 h6 q0 q1 q2 q3 q4
        go_wp2_with fail
        go_roundw
        case rel => exact ⟨i + 1, KM, a5, c5, _, ops ++ [OpD.mk kd fl nn ob ok], by omega, rfl, rfl, HN, HF.out⟩
        case measure => simp only [intOf]; omega
    · have HL := Lib.hid hc
      have HS := Lib.hid hS
      have fin : ∃ J a' c' ops, Mem.le I J ∧ Ending.returned (.slice a i c) = .returned (.slice a' ops.length c') ∧ ops.length ≤ 16 ∧ (rOp.slice 5).rel J [.slice a' ops.length c'] ops ∧ (∀ o ∈ ops, opOK o) ∧ Sat W wr (sep (kn J) A) := by
        obtain ⟨KM, h1, h2, h3⟩ := hS.osl_settle.learn
        have hsw := hS.swf_of_osl
        have ho := HO.out
        refine ⟨KM, a, c, ops, Mem.le_trans ho.1 h1, by rw [ho.2.1], by omega, ?_, ho.2.2.2, h3⟩
        rw [ho.2.1]
        exact ⟨a, c, vs, by rw [ho.2.1], by rw [ho.2.1]; exact hsw, h2, rows_mono5 h1 ho.2.2.1⟩
      have FIN := Lib.hid fin
      clear hS fin hc
      rcases Nat.lt_or_ge i n0 with g1 | g1
      · have g2 : ¬ (i : Int) < 16 := by have := HL.out; omega
        have g3 : (i : Int) < (n0 : Int) := by omega
        go_wp2_with fail
        go_ret
        obtain ⟨J', a', c', ops', f1, f2, f3, f4, f5, f6⟩ := FIN.out
        exact ⟨J', f1, a', c', ops', f2, f3, f4, f5, f6⟩
      · have g3 : ¬ (i : Int) < (n0 : Int) := by omega
        go_wp2_with fail
        go_ret
        obtain ⟨J', a', c', ops', f1, f2, f3, f4, f5, f6⟩ := FIN.out
        exact ⟨J', f1, a', c', ops', f2, f3, f4, f5, f6⟩
end Go.Proofs.Ytbniekblkbdidaa
