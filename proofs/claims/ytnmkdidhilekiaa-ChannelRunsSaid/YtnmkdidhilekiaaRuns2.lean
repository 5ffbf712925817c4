/- ChannelRuns, the walk. -/
import Derived.Test.YtnmkdidhilekiaaRuns3
namespace Go.Proofs.Ytnmkdidhilekiaa
open Go.RowKit PA
theorem infoREndP : (Try.prog.info? 26).map (fun i => (i.zero, i.size, i.bytes)) = some (some (.pointer none), 1, 8) := by kernel_rfl
def NewMs (Q : Nat → Nat) (win : Nat → Int) : Nat → Assn
  | 0 => emp
  | 1 => isM (Q 0) (newM (win 0))
  | _ => sep (isM (Q 0) (newM (win 0))) (isM (Q 1) (newM (win 1)))
set_option maxHeartbeats 4000000 in
set_option maxRecDepth 100000 in
theorem channelRuns_walk (a0 : Int) (a1 : Option Addr) (len1 cap1 : Nat) (z1 : List Int) (w : World) (w0 : (Lit.int .i64 a0).wf = true) (w1 : IsArg w a1 len1 cap1 z1) :
    Calls Try.prog 3 #[.int .i64 a0, .slice a1 len1 cap1] w fun e w' => e = .returned (.bool true) ∧ Below w.heap.size w w' := by
  obtain ⟨b0, b1⟩ := i64_of_wf w0
  clear w0
  have hlen : len1 ≤ 9223372036854775807 := by
    rcases w1 with ⟨-, h, -⟩ | ⟨x, -, h1, h2, -⟩
    · omega
    · unfold maxLen at h2; omega
  have HARG := Lib.hid w1
  clear w1
  have qE : ∀ (w : World) (a : Option Addr) (n c n' c' : Nat), (binOp .eql 23 (.slice a n c) (.slice none n' c')).run Try.prog w = .ok (.bool a.isNone) w := fun w a n c n' c' => Lib.run_eql_slice_nil w _ _ a n c n' c' Try.underlying23
  go_enter Try.func3, Try.ntmps3
  go_wp2_with fail
  refine (ends_spec a0 (Sat.start w) b0 b1).mono ?_
  rintro e w1 ⟨b, P, rfl, h1⟩
  obtain ⟨win, hwin, hwa, hw1, hw2⟩ : ∃ win : Nat → Int, (fun k => newEnd (1 + aroundI (if k = 0 then a0 else a0.tdiv 16) 16)) = (fun k => newEnd (win k)) ∧ (win 0 = 1 + aroundI a0 16 ∧ win 1 = 1 + aroundI (a0.tdiv 16) 16) ∧ (∀ k, 1 ≤ win k) ∧ (∀ k, win k ≤ 16) :=
    ⟨fun k => 1 + aroundI (if k = 0 then a0 else a0.tdiv 16) 16, rfl, ⟨rfl, rfl⟩, fun k => by have := aroundI_lt (if k = 0 then a0 else a0.tdiv 16) 16 (by omega); show (1 : Int) ≤ 1 + _; omega, fun k => by have := aroundI_lt (if k = 0 then a0 else a0.tdiv 16) 16 (by omega); show (1 : Int) + _ ≤ 16; omega⟩
  rw [hwin] at h1
  have HWA := Lib.hid hwa
  clear hwin hwa
  go_wp2_with fail
  go_loopw [6, 7] (fun mv iv wr => ∃ i : Nat, i ≤ 2 ∧ iv = .int .i64 i ∧ ∃ a c Q, mv = .slice a i c ∧ Sat w wr (sep (osl 26 1 a i c ((List.range i).map fun k => ptr (Q k))) (sep (NewMs Q win i) (sep (rsl (some ⟨b, 0, none⟩) [ptr (P 0), ptr (P 1)]) (isTwo P fun k => newEnd (win k)))))) (fun _ i _ => 2 - (intOf i).toNat)
  case atStart =>
    refine ⟨0, by omega, rfl, none, 0, fun _ => 0, rfl, ?_⟩
    have h2 := h1.osl_nil 26 1
    simp only [NewMs]
    simpa only [List.range_zero, List.map_nil, sep_comm, sep_lcomm, sep_assoc] using h2
  case round =>
    clear h1
    obtain ⟨i, hi, rfl, a, c, Q, rfl, hS⟩ := hrel
    by_cases hi2 : i < 2
    · /-DEV-/
      obtain ⟨d1, d2⟩ := tdiv16 a0 b0 b1 16 (by omega)
      rcases (by omega : i = 0 ∨ i = 1) with rfl | rfl
      · go_wp2_with fail
        refine (around_spec a0 16 _ b0 b1 (by omega) (by omega)).mono ?_
        rintro e w3 ⟨rfl, rfl⟩
        have hwr : IntKind.i64.wrap (1 + aroundI a0 16) = win 0 := by rw [← HWA.out.1]; exact IntWalk.i64_in _ (by have := hw1 0; have := hw2 0; omega)
        have hA := hS.alloc0 (.cells #[.int .i64 a0, .int .i64 (a0.tdiv 16)] 3)
        go_wp2_with fail
        refine (rnew_spec (win 0) hA (hw1 0) (hw2 0)).mono ?_
        rintro e w4 ⟨q0, rfl, h4⟩
        have hB := h4.alloc0 (.cells #[ptr q0] 26)
        clear hA hS
        go_wp2_with (at_builtin; refine wpl_append_osl rfl (.tmp 45) (.tmp 47) 25 rfl 26 1 8 (.pointer none) Try.underlying25 infoREndP rfl rfl hB.p1 rfl [ptr q0] rfl (by simp) (by intro b hb; cases hb; exact new_src _ [_] _) (by simp [Value.oneCell', ptr]) (by omega) (by unfold maxLen; omega) ?_)
        intro a2 c2 w5 h5
        go_wp2_with fail
        go_roundw
        case rel =>
          refine ⟨1, by omega, by go_num, a2, c2, fun _ => q0, by simp, ?_⟩
          simp only [NewMs, emp_sep] at h5 ⊢
          simpa only [List.range_succ, List.range_zero, List.map_nil, List.map_append, List.map_cons, List.nil_append, Nat.zero_add, sep_comm, sep_lcomm, sep_assoc] using h5
        case measure => simp [intOf]
      · go_wp2_with fail
        refine (around_spec (a0.tdiv 16) 16 _ d1 d2 (by omega) (by omega)).mono ?_
        rintro e w3 ⟨rfl, rfl⟩
        have hwr : IntKind.i64.wrap (1 + aroundI (a0.tdiv 16) 16) = win 1 := by rw [← HWA.out.2]; exact IntWalk.i64_in _ (by have := hw1 1; have := hw2 1; omega)
        have hA := hS.alloc0 (.cells #[.int .i64 a0, .int .i64 (a0.tdiv 16)] 3)
        go_wp2_with fail
        refine (rnew_spec (win 1) hA (hw1 1) (hw2 1)).mono ?_
        rintro e w4 ⟨q1, rfl, h4⟩
        have hB := h4.alloc0 (.cells #[ptr q1] 26)
        clear hA hS
        go_wp2_with (at_builtin; refine wpl_append_osl rfl (.tmp 45) (.tmp 47) 25 rfl 26 1 8 (.pointer none) Try.underlying25 infoREndP rfl rfl hB.p1 rfl [ptr q1] rfl (by simp) (by intro b hb; cases hb; exact new_src _ [_] _) (by simp [Value.oneCell', ptr]) (by omega) (by unfold maxLen; omega) ?_)
        intro a2 c2 w5 h5
        go_wp2_with fail
        go_roundw
        case rel =>
          refine ⟨2, by omega, by go_num, a2, c2, fun j => if j = 0 then Q 0 else q1, by simp, ?_⟩
          simp only [NewMs, if_true, Nat.one_ne_zero, if_false] at h5 ⊢
          simpa only [List.range_succ, List.range_zero, List.map_nil, List.map_append, List.map_cons, List.nil_append, List.cons_append, if_true, Nat.one_ne_zero, if_false, Nat.zero_add, Nat.reduceAdd, sep_comm, sep_lcomm, sep_assoc] using h5
        case measure => simp [intOf]
      /-VED-/
    · obtain rfl : i = 2 := by omega
      clear hi2 hi b0 b1
      have f0 : decide ((2 : Int) < 2) = false := by simp
      rw [show ((2 : Nat) : Int) = 2 from rfl]
      obtain ⟨bm, rfl, -⟩ := hS.osl_at (by simp [List.range_succ])
      have h2 := hS.osl_settle
      obtain ⟨M, hM⟩ : ∃ M : Nat → MEnd, M = fun k => newM (win k) := ⟨_, rfl⟩
      have hI : RInv 0 M [] := by
        rw [hM]
        exact ⟨fun k _ => ⟨⟨Nat.le_refl _, Nat.zero_le _, List.Pairwise.nil, fun x hx => (by cases hx), by show (0 : Int) ≤ 60; omega, by omega⟩, hw1 k, hw2 k, rfl, Nat.le_refl _, Nat.le_refl _, fun b hb => (by cases hb)⟩, fun x hx => (by cases hx)⟩
      have h3 : Sat w wr (sep (RunsA b P bm Q M) (linkR none 0 [] none 0 [])) := by
        have h4 := (((h2.osl_nil 40 3).rows_nil rPkt 3).osl_nil 3 1)
        have e1 : isTwo P (fun k => newEnd (win k)) = isTwo P (absN M) := by rw [hM]; rfl
        have e2 : NewMs Q win 2 = two fun k => isM (Q k) (M k) := by rw [hM]; rfl
        have e3 : ((List.range 2).map fun k => ptr (Q k)) = [ptr (Q 0), ptr (Q 1)] := rfl
        rw [e1, e2, e3] at h4
        simp only [RunsA, linkR, List.length_nil, List.map_nil]
        simpa only [sep_comm, sep_lcomm, sep_assoc] using h4
      clear h2 hS hM hw1 hw2 HWA
      go_wp2_with fail
      go_loopw [10, 11, 12] (RunsRel w b P bm Q len1) (fun _ _ i _ => len1 - (intOf i).toNat)
      case atStart => exact ⟨0, by omega, by omega, rfl, M, [], none, 0, [], none, 0, rfl, rfl, by simp, hI, h3⟩
      case round =>
        clear h3 hI
        obtain ⟨i, hi, hi60, rfl, M, l, al, cl, lc, at', ct, rfl, rfl, hll, hI, hS⟩ := hrel
        by_cases hlt : i < len1 ∧ i < 60
        · obtain ⟨x, n, rfl, carg, n1, n2⟩ := arg_at HARG.out hS i hlt.1
          have g1 : decide ((i : Int) < (len1 : Int)) = true := by simp; omega
          have g2 : decide ((i : Int) < 60) = true := by simp; omega
          have g3 : (i : Int) < (len1 : Int) := by omega
          go_wp2_with fail
          obtain ⟨d1, d2⟩ := tdiv16 n n1 n2 8 (by omega)
          refine (around_spec (n.tdiv 8) 1073741824 _ d1 d2 (by omega) (by omega)).mono ?_
          rintro e w3 ⟨rfl, rfl⟩
          obtain ⟨e1, e2⟩ := aroundI_lt (n.tdiv 8) 1073741824 (by omega)
          obtain ⟨q, hq⟩ : ∃ q : Nat, aroundI (n.tdiv 8) 1073741824 = q := ⟨(aroundI (n.tdiv 8) 1073741824).toNat, by omega⟩
          rw [hq] at e1 e2 ⊢
          have hq2 : q < 1073741824 := by omega
          clear hq e1 e2 d1 d2
          obtain ⟨k, hk⟩ : ∃ k, k = q % 2 := ⟨_, rfl⟩
          have hk2 : k < 2 := by omega
          have hk3 : (k : Int) < 2 := by omega
          have hrem : Int.tmod (q : Int) 2 = (k : Int) := by rw [Int.tmod_eq_emod_of_nonneg (by omega)]; omega
          clear hk
          go_wp2_with fail
          refine (around_spec n 8 _ n1 n2 (by omega) (by omega)).mono ?_
          rintro e w3 ⟨rfl, rfl⟩
          obtain ⟨e1, e2⟩ := aroundI_lt n 8 (by omega)
          obtain ⟨m, hm⟩ : ∃ m : Nat, aroundI n 8 = m := ⟨(aroundI n 8).toNat, by omega⟩
          rw [hm] at e1 e2 ⊢
          have hm2 : m < 8 := by omega
          clear hm e1 e2 carg
          go_upto_block 4 with fail
          clear hrem
          go_cut [10, 11] (fun lv tv wc => RunsCore w b P bm Q (i + 1) lv tv wc)
          case first =>
            obtain ⟨ce, cm⟩ := runs_cells hS k hk2
            by_cases hm3 : m < 2
            · have hcase : (((m : Int) == 0) = true) ∨ (((m : Int) == 0) = false ∧ ((m : Int) == 1) = true) := by
                by_cases h : m = 0
                · exact .inl (by simp [h])
                · exact .inr ⟨by simp; omega, by simp; omega⟩
              obtain ⟨bs, hbs⟩ : ∃ bs, bs = [UInt8.ofNat i, UInt8.ofNat q] := ⟨_, rfl⟩
              have hbv : #[Value.int .u8 (i : Int), Value.int .u8 ((q : Int) % 256)] = (bs.map bv).toArray := by
                have e1 : i % 256 = i := Nat.mod_eq_of_lt (by omega)
                rw [hbs]
                simp [bv, e1]
              have hbl : bs.length = 2 := by rw [hbs]; rfl
              have HBV := Lib.hid hbv
              have HBL := Lib.hid hbl
              clear hbv hbs
              have h6 := hS.bytes_of_alloc bs 5 (0, 0) (by rw [hbl]; decide)
              rw [← HBV.out, hbl, runsA_pick k hk2] at h6
              have h7 := h6.dup
              have h8 : Sat w (wr.alloc (.cells #[Value.int .u8 (i : Int), Value.int .u8 ((q : Int) % 256)] 5)) (sep (isEnd (P k) (absM (M k))) (sep (rBytes.is [.slice (some ⟨wr.heap.size, 0, none⟩) 2 2] bs) (sep (rBytes.is [.slice (some ⟨wr.heap.size, 0, none⟩) 2 2] bs) (sep (isM (Q k) (M k)) (sep (rsl (some ⟨b, 0, none⟩) [ptr (P 0), ptr (P 1)]) (sep (rsl (some ⟨bm, 0, none⟩) [ptr (Q 0), ptr (Q 1)]) (sep (isEnd (P (1 - k)) (absM (M (1 - k)))) (sep (isM (Q (1 - k)) (M (1 - k))) (linkR al cl lc at' ct l))))))))) := by
                have h9 : Sat w _ (sep (rBytes.is [.slice (some ⟨wr.heap.size, 0, none⟩) 2 2] bs) (sep (rBytes.is [.slice (some ⟨wr.heap.size, 0, none⟩) 2 2] bs) _)) := h7
                simpa only [sep_comm, sep_lcomm, sep_assoc] using h9
              have hD := h8.drew
              have ce2 : (wr.alloc (.cells #[Value.int .u8 (i : Int), Value.int .u8 ((q : Int) % 256)] 5)).drew.cell? ⟨b, k, none⟩ = some (.pointer (some ⟨P k, 0, none⟩)) := two_cellk (f := fun k => ptr (P k)) hD.p4 k hk2
              have hS0 : (wr.alloc (.cells #[Value.int .u8 (i : Int), Value.int .u8 ((q : Int) % 256)] 5)).drew.cell? ⟨bm, k, none⟩ = some (.pointer (some ⟨Q k, 0, none⟩)) := two_cellk (f := fun k => ptr (Q k)) hD.p5 k hk2
              have hROK := hI.1 k hk2
              have hwl : (absM (M k)).wait.length < 1000 := by
                show ((M k).sent.drop (M k).acked).length < 1000
                rw [List.length_drop]; have := hROK.sent; omega
              have HWL := Lib.hid hwl
              have HROK := Lib.hid hROK
              clear h6 h7 h8 hS ce cm hbl hwl hROK
              rcases hcase with f0 | ⟨f0, f1⟩
              all_goals
                /-DEV-/
                as_aux_lemma =>
                  go_wp2_with fail
                  refine wp_region_canon rfl (fun w' => w'.cell? ⟨bm, k, none⟩ = some (.pointer (some ⟨Q k, 0, none⟩))) [(0, .p), (1, .p), (2, .p), (3, .t), (4, .p), (6, .p), (7, .p), (8, .p), (9, .s), (10, .p), (5, .e true), (11, .e false), (12, .p)] (by kernel_rfl) ?_
                  (repeat (first | (refine C_p (v := ?_) rfl rfl (fun w' => ?_) ?_; rotate_left; (go_simp; with_reducible rfl); simp only [Act.put, List.setIfInBounds_toArray, List.set_cons_zero, List.set_cons_succ]) | (refine C_s (v := ?_) rfl rfl hS0 (fun w' hS => ?_) ?_; rotate_left; ((try dsimp only at hS); go_simp; with_reducible rfl); simp only [Act.put, List.setIfInBounds_toArray, List.set_cons_zero, List.set_cons_succ]) | (refine C_t (v := ?_) rfl rfl ?_ ?_; rotate_left; (go_simp; with_reducible rfl); simp only [Act.put, List.setIfInBounds_toArray, List.set_cons_zero, List.set_cons_succ]) | (refine C_po rfl rfl ?_; simp only [Act.put, List.setIfInBounds_toArray, List.set_cons_zero, List.set_cons_succ]) | (refine C_so rfl rfl hS0 ?_; simp only [Act.put, List.setIfInBounds_toArray, List.set_cons_zero, List.set_cons_succ]) | (refine C_to rfl rfl ?_; simp only [Act.put, List.setIfInBounds_toArray, List.set_cons_zero, List.set_cons_succ])))
                  (refine C_e rfl rfl (fun K hK => ?_); go_simp)
                  refine (send_ok (P k) _ _ _ hD (by rw [HBL.out]; omega) HWL.out).mono ?_
                  rintro e w4 ⟨rfl, h9⟩
                  have hS1 : w4.cell? ⟨bm, k, none⟩ = some (.pointer (some ⟨Q k, 0, none⟩)) := two_cellk (f := fun k => ptr (Q k)) h9.p4 k hk2
                  clear hS0 ce2 hD
                  (refine hK _ _ (fun _ => hS1) ?_; clear hK K; (try simp only [Act.put, List.setIfInBounds_toArray, List.set_cons_zero, List.set_cons_succ]))
                  (repeat (first | (refine C_p (v := ?_) rfl rfl (fun w' => ?_) ?_; rotate_left; (go_simp; with_reducible rfl); simp only [Act.put, List.setIfInBounds_toArray, List.set_cons_zero, List.set_cons_succ]) | (refine C_s (v := ?_) rfl rfl hS0 (fun w' hS => ?_) ?_; rotate_left; ((try dsimp only at hS); go_simp; with_reducible rfl); simp only [Act.put, List.setIfInBounds_toArray, List.set_cons_zero, List.set_cons_succ]) | (refine C_t (v := ?_) rfl rfl ?_ ?_; rotate_left; (go_simp; with_reducible rfl); simp only [Act.put, List.setIfInBounds_toArray, List.set_cons_zero, List.set_cons_succ]) | (refine C_po rfl rfl ?_; simp only [Act.put, List.setIfInBounds_toArray, List.set_cons_zero, List.set_cons_succ]) | (refine C_so rfl rfl hS0 ?_; simp only [Act.put, List.setIfInBounds_toArray, List.set_cons_zero, List.set_cons_succ]) | (refine C_to rfl rfl ?_; simp only [Act.put, List.setIfInBounds_toArray, List.set_cons_zero, List.set_cons_succ])))
                  (refine C_e rfl rfl (fun K hK => ?_); go_simp)
                  refine (rsend_spec (Q k) (M k) _ bs h9.p2.p2.p1 (by rw [HBL.out]; omega) (by have := HROK.out.sent; omega) HROK.out.ok.ack).mono ?_
                  rintro e w5 ⟨rfl, h10⟩
                  (refine hK _ _ (fun h => by cases h) ?_; clear hK K; (try simp only [Act.put, List.setIfInBounds_toArray, List.set_cons_zero, List.set_cons_succ]))
                  (repeat (first | (refine C_p (v := ?_) rfl rfl (fun w' => ?_) ?_; rotate_left; (go_simp; with_reducible rfl); simp only [Act.put, List.setIfInBounds_toArray, List.set_cons_zero, List.set_cons_succ]) | (refine C_s (v := ?_) rfl rfl hS0 (fun w' hS => ?_) ?_; rotate_left; ((try dsimp only at hS); go_simp; with_reducible rfl); simp only [Act.put, List.setIfInBounds_toArray, List.set_cons_zero, List.set_cons_succ]) | (refine C_t (v := ?_) rfl rfl ?_ ?_; rotate_left; (go_simp; with_reducible rfl); simp only [Act.put, List.setIfInBounds_toArray, List.set_cons_zero, List.set_cons_succ]) | (refine C_po rfl rfl ?_; simp only [Act.put, List.setIfInBounds_toArray, List.set_cons_zero, List.set_cons_succ]) | (refine C_so rfl rfl hS0 ?_; simp only [Act.put, List.setIfInBounds_toArray, List.set_cons_zero, List.set_cons_succ]) | (refine C_to rfl rfl ?_; simp only [Act.put, List.setIfInBounds_toArray, List.set_cons_zero, List.set_cons_succ])))
                  refine C_nil ?_
                  go_wp2_with fail
                  go_meet
                  exact runs_send_core hI hll hlt.2 hk2 HBL.out h10
                /-VED-/
            · have f0 : ((m : Int) == 0) = false := by simp; omega
              have f1 : ((m : Int) == 1) = false := by simp; omega
              by_cases hm4 : m < 4
              · have hcase : (((m : Int) == 2) = true) ∨ (((m : Int) == 2) = false ∧ ((m : Int) == 3) = true) := by
                  by_cases h : m = 2
                  · exact .inl (by simp [h])
                  · exact .inr ⟨by simp; omega, by simp; omega⟩
                have hR := hI.1 k hk2
                have hwl : (absM (M k)).wait.length = (M k).sent.length - (M k).acked := by show ((M k).sent.drop (M k).acked).length = _; rw [List.length_drop]
                have hwl60 : (absM (M k)).wait.length ≤ 60 := by have := hR.sent; omega
                obtain ⟨nn, hnn⟩ : ∃ nn : Nat, (nn : Int) = min ((absM (M k)).wait.length : Int) (M k).win := ⟨(min ((absM (M k)).wait.length : Int) (M k).win).toNat, by have := hR.win1; omega⟩
                have hbl : ∀ c ∈ (absM (M k)).wait, c.length ≤ 65536 := by
                  intro c hc
                  have := hR.short c (List.mem_of_mem_drop hc)
                  omega
                have hnl : nn ≤ (absM (M k)).wait.length := by omega
                have hack : (absM (M k)).ack ≤ 1000000000 := by have := hR.ok.ack; have := hR.ok.len; show ((M k).acked : Int) ≤ _; omega
                have h6 := hS
                rw [runsA_pick k hk2] at h6
                simp only [sep_assoc] at h6
                rcases hcase with f2 | ⟨f2, f3⟩
                all_goals
                  /-DEV-/
                  as_aux_lemma =>
                    go_wp2_with fail
                    refine (out_pkts (P k) _ h6 hR.win1 hR.win2 nn hnn (by show (0 : Int) ≤ ((M k).acked : Int); omega) hack hbl).mono ?_
                    rintro e w3 ⟨ap, cp, he, hwp, hP⟩
                    have hpl := outPkts_length (absM (M k)) nn hnl
                    rw [← hpl] at he hwp hP
                    obtain ⟨ps, hps⟩ : ∃ ps, ps = outPkts (absM (M k)) nn := ⟨_, rfl⟩
                    rw [← hps] at he hwp hP hpl
                    obtain ⟨L, hL⟩ : ∃ L, L = ps.length := ⟨_, rfl⟩
                    have hL16 : L ≤ 16 := by have := hR.win2; rw [hL, hpl]; unfold outN; split <;> omega
                    rw [← hL] at he hwp hP
                    subst he
                    have hm2 : w3.cell? ⟨bm, k, none⟩ = some (.pointer (some ⟨Q k, 0, none⟩)) := two_cellk (f := fun k => ptr (Q k)) hP.p4 k hk2
                    clear ce cm hS h6
                    have HPS := Lib.hid hps
                    have HL := Lib.hid hL
                    clear hps hL
                    go_wp2_with fail
                    refine (rout_spec (Q k) (M k) hP.p2 hR.win1 hR.win2 nn (by rw [← hwl]; exact hnn) hR.ok.ack hR.ok.len).mono ?_
                    rintro e w4 ⟨aq, cq, he, hwq, hP2⟩
                    rw [← hpl, ← HL.out] at he hwq
                    rw [← hpl, ← HPS.out, ← HL.out] at hP2
                    subst he
                    have h7 : Sat w w4 (sep ((rPkt.slice 3).is [.slice ap L cp] ps) (sep ((rPkt.slice 3).is [.slice aq L cq] ps) (sep (isM (Q k) { M k with ow := false }) (sep (isEnd (P k) { absM (M k) with ow := false }) (sep (rsl (some ⟨b, 0, none⟩) [ptr (P 0), ptr (P 1)]) (sep (rsl (some ⟨bm, 0, none⟩) [ptr (Q 0), ptr (Q 1)]) (sep (isEnd (P (1 - k)) (absM (M (1 - k)))) (sep (isM (Q (1 - k)) (M (1 - k))) (linkR al cl lc at' ct l))))))))) := by
                      simpa only [sep_comm, sep_lcomm, sep_assoc] using hP2
                    clear hP hP2 hm2
                    go_wp2_with fail
                    refine (same36_spec ap aq L cp cq ps HL.out.symm hwp h7).mono ?_
                    rintro e w5 ⟨rfl, h8⟩
                    have h9 : Sat w w5 (sep (RunsA b P bm Q (updM M k { M k with ow := false })) (sep ((rPkt.slice 3).is [.slice aq L cq] ps) (linkR al cl lc at' ct l))) := by
                      rw [← runsA_put k hk2, abs_out]
                      simpa only [sep_comm, sep_lcomm, sep_assoc] using h8
                    clear h7 h8 hpl hnn hbl hack hwl60 hwp
                    have HNL := Lib.hid hnl
                    have HR := Lib.hid hR
                    have HWL := Lib.hid hwl
                    clear hnl hR hwl
                    go_wp2_with fail
                    go_loopw [10, 11, 18] (RLaidRel w b P bm Q M l k ps ((rPkt.slice 3).is [.slice aq L cq] ps)) (fun _ _ j _ => L - (intOf j).toNat)
                    case atStart => exact ⟨0, al, cl, lc, at', ct, by omega, rfl, rfl, rfl, by simpa using h9⟩
                    case round =>
                      clear h9
                      obtain ⟨j, al, cl, lc, at', ct, hj, rfl, rfl, rfl, hS⟩ := hrel
                      rw [← HL.out] at hj
                      obtain ⟨l2, hl⟩ : ∃ l2, l2 = l ++ (ps.take j).map fun p => (p, 1 - k) := ⟨_, rfl⟩
                      have hll2 : l2.length = l.length + j := by rw [hl, List.length_append, List.length_map, List.length_take, ← HL.out]; omega
                      rw [← hl] at hS
                      by_cases hjL : j < L
                      · have hbj : decide ((j : Int) < (L : Int)) = true := by simp; omega
                        have hjI : (j : Int) < (L : Int) := by omega
                        obtain ⟨y, hy⟩ : ∃ y, y = 1 - k := ⟨_, rfl⟩
                        have hy2 : y < 2 := by omega
                        have hsub : (1 : Int) - (k : Int) = (y : Int) := by omega
                        rw [← hy] at hl
                        obtain ⟨bp, op, v, rfl, g00, g01, g02, h7⟩ := pkt_get hS.p1 j (by rw [← HL.out]; exact hjL)
                        obtain ⟨pk, hpk⟩ : ∃ pk, pk = ps[j]'(by rw [← HL.out]; exact hjL) := ⟨_, rfl⟩
                        rw [← hpk] at g00 g01 h7
                        have HPK := Lib.hid hpk
                        have HLL := Lib.hid hll2
                        have HLD := Lib.hid hl
                        have HY := Lib.hid hy
                        clear hpk hll2 hl hy
                        obtain ⟨ab, cb, rfl, -, -⟩ := h7.bytes_open
                        simp only [linkR] at h7
                        rw [HLL.out] at h7
                        have hA : Sat w (wr.alloc (.cells #[.int .i64 pk.seq, .int .i64 pk.ack, .slice ab pk.b.length cb] 40)) (sep (osl 40 3 al (l.length + j) cl lc) (sep (osl 3 1 at' (l.length + j) ct (l2.map fun x => .int .i64 x.2)) (sep (rBytes.is [.slice ab pk.b.length cb] pk.b) (sep ((rPkt.rows 3).is lc (l2.map (·.1))) (sep (RunsA b P bm Q (updM M k { M k with ow := false })) ((rPkt.slice 3).is [.slice (some ⟨bp, op, none⟩) L cq] ps)))))) := by
                          have := (h7.alloc0 (.cells #[.int .i64 pk.seq, .int .i64 pk.ack, .slice ab pk.b.length cb] 40))
                          simpa only [sep_comm, sep_lcomm, sep_assoc] using this
                        have hln : l.length + j ≤ 1400 := by omega
                        clear h7 hS
                        go_wp2_with (at_builtin; refine wpl_append_osl rfl (.tmp 176) (.tmp 181) 30 rfl 40 3 40 _ Try.underlying30 infoRPacket rfl rfl hA rfl [.int .i64 pk.seq, .int .i64 pk.ack, .slice ab pk.b.length cb] rfl (by simp) (by intro b hb; cases hb; exact new_src _ _ _) (by simp [Value.oneCell']) (by omega) (by unfold maxLen; omega) ?_)
                        intro a2 c2 w4 h8
                        have hB := (h8.alloc0 (.cells #[.int .i64 y] 3)).p1
                        clear hA h8
                        go_wp2_with (at_builtin; refine wpl_append_osl rfl (.tmp 183) (.tmp 186) 22 rfl 3 1 8 (.int .i64 0) Try.underlying22 infoInt rfl rfl hB rfl [.int .i64 y] rfl (by simp) (by intro b hb; cases hb; exact new_src _ [_] _) (by simp [Value.oneCell']) (by omega) (by unfold maxLen; omega) ?_)
                        intro a3 c3 w5 h9
                        clear hB
                        go_wp2_with fail
                        go_roundw
                        case rel =>
                          refine ⟨j + 1, a2, c2, lc ++ [.int .i64 pk.seq, .int .i64 pk.ack, .slice ab pk.b.length cb], a3, c3, by have := HL.out; omega, by go_num, by rw [Nat.add_assoc], by rw [Nat.add_assoc], ?_⟩
                          rw [← HLL.out] at h9
                          have h10 := linkR_snoc h9.p1
                          have hj2 : j < ps.length := by rw [← HL.out]; exact hjL
                          rw [show l ++ (ps.take (j + 1)).map (fun p => (p, 1 - k)) = l2 ++ [(pk, y)] by
                            rw [List.take_succ_eq_append_getElem hj2, List.map_append, ← List.append_assoc, ← HY.out, ← HLD.out, HPK.out]; rfl]
                          simpa only [sep_comm, sep_lcomm, sep_assoc] using h10
                        case measure => simp [intOf]; omega
                      · have hbj : decide ((j : Int) < (L : Int)) = false := by simp; omega
                        go_wp2_with fail
                        go_meet
                        obtain rfl : j = L := by omega
                        have e1 : ps.take j = ps := List.take_of_length_le (by rw [← HL.out]; exact Nat.le_refl _)
                        rw [hl, e1] at hS
                        have h11 := runs_laid_core hI (by omega) hll hk2 HPS.out HNL.out (by rw [← HL.out]; exact hL16) hS
                        rw [← HL.out] at h11
                        exact h11
                  /-VED-/
              · have f2 : ((m : Int) == 2) = false := by simp; omega
                have f3 : ((m : Int) == 3) = false := by simp; omega
                by_cases hl0 : l.length = 0
                · have f4 : ((l.length : Int) == 0) = true := by simp [hl0]
                  go_wp2_with fail
                  exact ⟨⟨i + 1, by omega, by omega, by go_num, M, l, al, cl, lc, at', ct, rfl, rfl, by omega, hI.up, hS⟩, by simp [intOf]; omega⟩
                · obtain ⟨L, hL⟩ : ∃ L, L = l.length := ⟨_, rfl⟩
                  have f4 : ((L : Int) == 0) = false := by simp; omega
                  obtain ⟨mn, hmn⟩ : ∃ mn, mn = min L 20 := ⟨_, rfl⟩
                  have hmn1 : (if (20 : Int) < (L : Int) then (20 : Int) else (L : Int)) = (mn : Int) := by split <;> omega
                  have hmn2 : (if 20 < L then (20 : Int) else (L : Int)) = (mn : Int) := by split <;> omega
                  have hmn0 : (mn : Int) ≠ 0 := by omega
                  obtain ⟨qq, hqq⟩ : ∃ qq, qq = q / 2 := ⟨_, rfl⟩
                  have hquo : Int.tdiv (q : Int) 2 = (qq : Int) := by rw [Int.tdiv_eq_ediv_of_nonneg (by omega)]; omega
                  obtain ⟨r, hr⟩ : ∃ r, r = qq % mn := ⟨_, rfl⟩
                  have hrm : r < mn := by rw [hr]; exact Nat.mod_lt _ (by omega)
                  have hmod : Int.tmod (qq : Int) (mn : Int) = (r : Int) := by rw [Int.tmod_eq_emod_of_nonneg (by omega), hr, Int.natCast_emod]
                  obtain ⟨L1, hL1⟩ : ∃ L1, L1 = L - 1 := ⟨_, rfl⟩
                  obtain ⟨j, hj⟩ : ∃ j, j = L1 - r := ⟨_, rfl⟩
                  have hs1 : (L : Int) - 1 = (L1 : Int) := by omega
                  have hs2 : (L1 : Int) - (r : Int) = (j : Int) := by omega
                  have hw1 : IntKind.i64.wrap ((L : Int) - 1) = (L1 : Int) := by rw [hs1]; exact IntWalk.i64_in _ (by omega)
                  have hw2 : IntKind.i64.wrap ((L1 : Int) - (r : Int)) = (j : Int) := by rw [hs2]; exact IntWalk.i64_in _ (by omega)
                  have hw3 : IntKind.i64.wrap (L1 : Int) = (L1 : Int) := IntWalk.i64_in _ (by omega)
                  have hw4 : IntKind.i64.wrap (j : Int) = (j : Int) := IntWalk.i64_in _ (by omega)
                  have hw5 : IntKind.i64.wrap (r : Int) = (r : Int) := IntWalk.i64_in _ (by omega)
                  have hw6 : IntKind.i64.wrap (qq : Int) = (qq : Int) := IntWalk.i64_in _ (by omega)
                  have hjL : j < L := by omega
                  have hjI : (j : Int) < (L : Int) := by omega
                  have hjl : j < l.length := by omega
                  have hS' : Sat w wr (sep (linkR al cl lc at' ct l) (RunsA b P bm Q M)) := by rw [sep_comm]; exact hS
                  obtain ⟨g, gt, v, rfl, rfl, ct0, cp0, cp1, cp2, h1⟩ := linkR_get hS' j hjl
                  obtain ⟨t, ht⟩ : ∃ t, t = l[j].2 := ⟨_, rfl⟩
                  obtain ⟨pk, hpk⟩ : ∃ pk, pk = l[j].1 := ⟨_, rfl⟩
                  rw [← ht] at ct0
                  rw [← hpk] at cp0 cp1 h1
                  have hX := hI.2 _ (List.getElem_mem hjl)
                  rw [← ht, ← hpk] at hX
                  have ht2 : t < 2 := hX.1
                  have ht3 : (t : Int) < 2 := by omega
                  have hseq : pk.seq ≤ 60 := hX.2
                  have h2 := h1.alloc (.cells #[.int .i64 pk.seq, .int .i64 pk.ack, v] 40)
                  obtain ⟨bp, hbp⟩ : ∃ bp, bp = wr.heap.size := ⟨_, rfl⟩
                  rw [← hbp] at h2
                  have hP0 : PkRel w b P bm Q M l (some ⟨g, 0, none⟩) cl lc (some ⟨gt, 0, none⟩) ct bp (wr.alloc (.cells #[.int .i64 pk.seq, .int .i64 pk.ack, v] 40)) :=
                    ⟨pk.seq, pk.ack, v, pk.b, hseq, by simpa only [sep_comm, sep_lcomm, sep_assoc] using h2⟩
                  obtain ⟨ab, cb, rfl, -, -⟩ := h1.bytes_open
                  obtain ⟨nb, hnb⟩ : ∃ nb, nb = pk.b.length := ⟨_, rfl⟩
                  rw [← hnb] at cp2 hP0
                  obtain ⟨r41, hr41⟩ : ∃ r41, r41 = q % 41 := ⟨_, rfl⟩
                  have hm41 : Int.tmod (q : Int) 41 = (r41 : Int) := by rw [Int.tmod_eq_emod_of_nonneg (by omega)]; omega
                  obtain ⟨q41, hq41⟩ : ∃ q41, q41 = q / 41 := ⟨_, rfl⟩
                  have hd41 : Int.tdiv (q : Int) 41 = (q41 : Int) := by rw [Int.tdiv_eq_ediv_of_nonneg (by omega)]; omega
                  obtain ⟨s41, hs41⟩ : ∃ s41, s41 = q41 % 40 := ⟨_, rfl⟩
                  have hn41 : Int.tmod (q41 : Int) 40 = (s41 : Int) := by rw [Int.tmod_eq_emod_of_nonneg (by omega)]; omega
                  have hb41 : s41 < 40 := by omega
                  have hv41 : IntKind.i64.wrap (q41 : Int) = (q41 : Int) := IntWalk.i64_in _ (by omega)
                  obtain ⟨r43, hr43⟩ : ∃ r43, r43 = q % 43 := ⟨_, rfl⟩
                  have hm43 : Int.tmod (q : Int) 43 = (r43 : Int) := by rw [Int.tmod_eq_emod_of_nonneg (by omega)]; omega
                  obtain ⟨q43, hq43⟩ : ∃ q43, q43 = q / 43 := ⟨_, rfl⟩
                  have hd43 : Int.tdiv (q : Int) 43 = (q43 : Int) := by rw [Int.tdiv_eq_ediv_of_nonneg (by omega)]; omega
                  obtain ⟨s43, hs43⟩ : ∃ s43, s43 = q43 % 9 := ⟨_, rfl⟩
                  have hn43 : Int.tmod (q43 : Int) 9 = (s43 : Int) := by rw [Int.tmod_eq_emod_of_nonneg (by omega)]; omega
                  have hb43 : s43 < 9 := by omega
                  have hv43 : IntKind.i64.wrap (q43 : Int) = (q43 : Int) := IntWalk.i64_in _ (by omega)
                  have hw43 : IntKind.i64.wrap ((s43 : Int) - 1) = (s43 : Int) - 1 := IntWalk.i64_in _ (by omega)
                  obtain ⟨r47, hr47⟩ : ∃ r47, r47 = q % 47 := ⟨_, rfl⟩
                  have hm47 : Int.tmod (q : Int) 47 = (r47 : Int) := by rw [Int.tmod_eq_emod_of_nonneg (by omega)]; omega
                  clear hq41 hs41 hr43 hq43 hs43 hr47
                  have HT := Lib.hid ht
                  have HL := Lib.hid hL
                  have HBP := Lib.hid hbp
                  have HJL := Lib.hid hjl
                  rw [← hL] at hll
                  rw [← hL]
                  clear hL hmn hqq hr hL1 hj hpk ht hX h1 h2 hS' hS hbp hnb hseq hr41 ce cm
                  go_upto_if 91 with (fail)
                  rw [← HBP.out]
                  go_cut [] (fun wc => PkRel w b P bm Q M l (some ⟨g, 0, none⟩) cl lc (some ⟨gt, 0, none⟩) ct bp wc)
                  case first =>
                    generalize wr.alloc (.cells #[.int .i64 pk.seq, .int .i64 pk.ack, .slice ab nb cb] 40) = w6 at hP0 ⊢
                    clear ct0 cp0 cp1 cp2
                    obtain ⟨seq, ack, v, bs, hsq, hS⟩ := hP0
                    have c0 : w6.cell? ⟨bp, 0, none⟩ = some (.int .i64 seq) := hS.cell 0
                    have c0f : w6.frozen? ⟨bp, 0, none⟩ = false := hS.unfrozen 0
                    by_cases h0 : r41 = 0
                    · have e0 : ((r41 : Int) == 0) = true := by simp [h0]
                      clear h0
                      go_wp2_with fail
                      go_meet
                      exact ⟨s41, ack, v, bs, by omega, hS.setCell 0 (.int .i64 s41)⟩
                    · have e0 : ((r41 : Int) == 0) = false := by simp; omega
                      go_wp2_with fail
                      go_meet
                      exact ⟨seq, ack, v, bs, hsq, hS⟩
                  case rest =>
                    clear hP0 ct0 cp0 cp1 cp2
                    have hP0 := hcut
                    clear hcut
                    go_upto_if 98 with (fail)
                    go_cut [] (fun wc => PkRel w b P bm Q M l (some ⟨g, 0, none⟩) cl lc (some ⟨gt, 0, none⟩) ct bp wc)
                    case first =>
                      obtain ⟨seq, ack, v, bs, hsq, hS⟩ := hP0
                      have c0 := hS.cell 1
                      have c0f := hS.unfrozen 1
                      simp only [List.getElem?_toArray, List.getElem?_cons_succ, List.getElem?_cons_zero] at c0
                      by_cases h0 : r43 = 0
                      · have e0 : ((r43 : Int) == 0) = true := by simp [h0]
                        clear h0
                        go_wp2_with fail
                        go_meet
                        exact ⟨seq, (s43 : Int) - 1, v, bs, hsq, hS.setCell 1 (.int .i64 ((s43 : Int) - 1))⟩
                      · have e0 : ((r43 : Int) == 0) = false := by simp; omega
                        go_wp2_with fail
                        go_meet
                        exact ⟨seq, ack, v, bs, hsq, hS⟩
                    case rest =>
                      clear hP0
                      have hP0 := hcut
                      clear hcut
                      go_upto_if 106 with (fail)
                      go_cut [] (fun wc => PkRel w b P bm Q M l (some ⟨g, 0, none⟩) cl lc (some ⟨gt, 0, none⟩) ct bp wc)
                      case first =>
                        obtain ⟨seq, ack, v, bs, hsq, hS⟩ := hP0
                        by_cases h0 : r47 = 0
                        · have e0 : ((r47 : Int) == 0) = true := by simp [h0]
                          clear h0
                          have hB := (((hS.alloc (.cells #[] 5)).osl_mk 0 0 1 [] rfl (by omega) (by unfold maxLen; omega) rfl rfl).alloc0 (.cells #[.int .u8 5] 5))
                          go_wp2_with (at_builtin; refine wpl_append_osl rfl (.tmp 107) (.tmp 108) 31 rfl 5 1 1 (.int .u8 0) Try.underlying31 infoU8 rfl rfl hB rfl [.int .u8 5] rfl (by simp) (by intro b hb; cases hb; exact new_src2 _ _ [_] _) (by simp [Value.oneCell']) (by omega) (by unfold maxLen; omega) ?_)
                          intro a2 c2 w7 h3
                          have h4 := (Sat.bytes_of_osl (bs := [5]) h3).2
                          have c0 : w7.cell? ⟨bp, 2, none⟩ = some v := h4.p1.cell 2
                          have c0f : w7.frozen? ⟨bp, 2, none⟩ = false := h4.p1.unfrozen 2
                          have h5 : Sat w (w7.setCell ⟨bp, 2, none⟩ (.slice a2 1 c2)) (sep (blk bp (.cells #[.int .i64 seq, .int .i64 ack, .slice a2 1 c2] 40 (0, 0))) (sep (rBytes.is [.slice a2 1 c2] [5]) (sep (RunsA b P bm Q M) (linkR (some ⟨g, 0, none⟩) cl lc (some ⟨gt, 0, none⟩) ct l)))) := (h4.p1.setCell 2 (.slice a2 1 c2)).p2.drop
                          clear hB hS h3
                          go_wp2_with fail
                          go_meet
                          exact ⟨seq, ack, .slice a2 1 c2, [5], hsq, by simpa only [sep_comm, sep_lcomm, sep_assoc] using h5⟩
                        · have e0 : ((r47 : Int) == 0) = false := by simp; omega
                          go_wp2_with fail
                          go_meet
                          exact ⟨seq, ack, v, bs, hsq, hS⟩
                      case rest =>
                        as_aux_lemma =>
                          obtain ⟨seq, ack, v, bs, hsq, hS⟩ := hcut
                          clear hP0 hm41 hd41 hn41 hv41 hm43 hd43 hn43 hv43 hw43 hm47 hmod hquo hmn1 hmn2 hs1 hs2 hw1 hw2 hw3 hw5 hw6
                          obtain ⟨ab, cb, rfl, -, -⟩ := hS.p1.bytes_open
                          obtain ⟨nb, hnb⟩ : ∃ nb, nb = bs.length := ⟨_, rfl⟩
                          rw [← hnb] at hS
                          have hlt' : l[j]'HJL.out = (l[j]'HJL.out) := rfl
                          have hcells : ∀ w', Sat w w' (sep (blk bp (.cells #[.int .i64 seq, .int .i64 ack, .slice ab nb cb] 40 (0, 0))) (sep (rBytes.is [.slice ab nb cb] bs) (sep (RunsA b P bm Q M) (linkR (some ⟨g, 0, none⟩) cl lc (some ⟨gt, 0, none⟩) ct l)))) →
                              w'.cell? ⟨gt, j, none⟩ = some (.int .i64 t) ∧ w'.cell? ⟨b, t, none⟩ = some (.pointer (some ⟨P t, 0, none⟩)) ∧ w'.cell? ⟨bm, t, none⟩ = some (.pointer (some ⟨Q t, 0, none⟩)) ∧ w'.cell? ⟨bp, 0, none⟩ = some (.int .i64 seq) ∧ w'.cell? ⟨bp, 1, none⟩ = some (.int .i64 ack) ∧ w'.cell? ⟨bp, 2, none⟩ = some (.slice ab nb cb) := fun w' h => pk_cells ht2 j HJL.out HT.out h
                          have HCELLS := Lib.hid hcells
                          clear hcells
                          have h7 := hS.drew
                          have hS0 := HCELLS.out _ h7
                          have hR := hI.1 t ht2
                          have HR := Lib.hid hR
                          have hwl : (absM (M t)).wait.length ≤ 1000 := by
                            show ((M t).sent.drop (M t).acked).length ≤ 1000
                            rw [List.length_drop]; have := hR.ok.len; omega
                          have hac : (M t).acked ≤ 1000 := by have := hR.ok.ack; have := hR.ok.len; omega
                          have hgt2 : ((M t).got : Int) ≤ 60 := hR.ok.got
                          have HWL := Lib.hid hwl
                          have HAC := Lib.hid hac
                          have HGT := Lib.hid hgt2
                          clear hnb hS hR hwl hac hgt2 hlt'
                          go_wp2_with fail
                          refine wp_region_canon rfl (fun w' => w'.cell? ⟨gt, j, none⟩ = some (.int .i64 t) ∧ w'.cell? ⟨b, t, none⟩ = some (.pointer (some ⟨P t, 0, none⟩)) ∧ w'.cell? ⟨bm, t, none⟩ = some (.pointer (some ⟨Q t, 0, none⟩)) ∧ w'.cell? ⟨bp, 0, none⟩ = some (.int .i64 seq) ∧ w'.cell? ⟨bp, 1, none⟩ = some (.int .i64 ack) ∧ w'.cell? ⟨bp, 2, none⟩ = some (.slice ab nb cb)) [(0, .p), (1, .p), (2, .p), (3, .p), (4, .s), (5, .p), (6, .s), (7, .t), (10, .p), (11, .p), (12, .p), (13, .p), (14, .s), (15, .p), (16, .s), (17, .s), (8, .e true), (9, .e true), (18, .e false), (19, .e false), (20, .p)] (by kernel_rfl) ?_
                          (repeat (first | (refine C_p (v := ?_) rfl rfl (fun w' => ?_) ?_; rotate_left; (go_simp; with_reducible rfl); simp only [Act.put, List.setIfInBounds_toArray, List.set_cons_zero, List.set_cons_succ]) | (refine C_s (v := ?_) rfl rfl hS0 (fun w' hS => ?_) ?_; rotate_left; ((try dsimp only at hS); go_simp; with_reducible rfl); simp only [Act.put, List.setIfInBounds_toArray, List.set_cons_zero, List.set_cons_succ]) | (refine C_t (v := ?_) rfl rfl ?_ ?_; rotate_left; (go_simp; with_reducible rfl); simp only [Act.put, List.setIfInBounds_toArray, List.set_cons_zero, List.set_cons_succ]) | (refine C_po rfl rfl ?_; simp only [Act.put, List.setIfInBounds_toArray, List.set_cons_zero, List.set_cons_succ]) | (refine C_so rfl rfl hS0 ?_; simp only [Act.put, List.setIfInBounds_toArray, List.set_cons_zero, List.set_cons_succ]) | (refine C_to rfl rfl ?_; simp only [Act.put, List.setIfInBounds_toArray, List.set_cons_zero, List.set_cons_succ])))
                          (refine C_e rfl rfl (fun K hK => ?_); go_simp)
                          refine (of_spec _ _ _ _ _ h7).mono ?_
                          rintro e w4 ⟨rfl, -, h8⟩
                          clear hS0 h7
                          have hS0 := HCELLS.out _ h8
                          (refine hK _ _ (fun _ => hS0) ?_; clear hK K; (try simp only [Act.put, List.setIfInBounds_toArray, List.set_cons_zero, List.set_cons_succ]))
                          (repeat (first | (refine C_p (v := ?_) rfl rfl (fun w' => ?_) ?_; rotate_left; (go_simp; with_reducible rfl); simp only [Act.put, List.setIfInBounds_toArray, List.set_cons_zero, List.set_cons_succ]) | (refine C_s (v := ?_) rfl rfl hS0 (fun w' hS => ?_) ?_; rotate_left; ((try dsimp only at hS); go_simp; with_reducible rfl); simp only [Act.put, List.setIfInBounds_toArray, List.set_cons_zero, List.set_cons_succ]) | (refine C_t (v := ?_) rfl rfl ?_ ?_; rotate_left; (go_simp; with_reducible rfl); simp only [Act.put, List.setIfInBounds_toArray, List.set_cons_zero, List.set_cons_succ]) | (refine C_po rfl rfl ?_; simp only [Act.put, List.setIfInBounds_toArray, List.set_cons_zero, List.set_cons_succ]) | (refine C_so rfl rfl hS0 ?_; simp only [Act.put, List.setIfInBounds_toArray, List.set_cons_zero, List.set_cons_succ]) | (refine C_to rfl rfl ?_; simp only [Act.put, List.setIfInBounds_toArray, List.set_cons_zero, List.set_cons_succ])))
                          (refine C_e rfl rfl (fun K hK => ?_); go_simp)
                          have h9 : Sat w w4 (sep (isEnd (P t) (absM (M t))) (sep (rBytes.is [.slice ab nb cb] bs) (sep (rBytes.is [.slice ab nb cb] bs) (sep (blk bp (.cells #[.int .i64 seq, .int .i64 ack, .slice ab nb cb] 40 (0, 0))) (sep (isM (Q t) (M t)) (sep (rsl (some ⟨b, 0, none⟩) [ptr (P 0), ptr (P 1)]) (sep (rsl (some ⟨bm, 0, none⟩) [ptr (Q 0), ptr (Q 1)]) (sep (isEnd (P (1 - t)) (absM (M (1 - t)))) (sep (isM (Q (1 - t)) (M (1 - t))) (linkR (some ⟨g, 0, none⟩) cl lc (some ⟨gt, 0, none⟩) ct l)))))))))) := by
                            have h10 : Sat w w4 (sep (rBytes.is [.slice ab nb cb] bs) (sep (rBytes.is [.slice ab nb cb] bs) _)) := h8.p1.dup
                            rw [runsA_pick t ht2] at h10
                            simpa only [sep_comm, sep_lcomm, sep_assoc] using h10
                          refine (in_all (P t) _ seq ack _ bs h9 (fun k hk => held_le HR.out.ok k hk) (by show (0 : Int) ≤ ((M t).acked : Int); omega) (by have := HWL.out; have := HAC.out; show ((M t).acked : Int) + _ ≤ _; omega) (by show (0 : Int) ≤ ((M t).got : Int); omega) (by have := HGT.out; show ((M t).got : Int) ≤ _; omega)).mono ?_
                          rintro e w5 ⟨ax, cx, outs, s, rfl, hpost, hwx, h10⟩
                          clear hS0 h9 h8
                          have hS0 := pk_cells2 ht2 j HJL.out HT.out h10
                          (refine hK _ _ (fun _ => hS0) ?_; clear hK K; (try simp only [Act.put, List.setIfInBounds_toArray, List.set_cons_zero, List.set_cons_succ]))
                          (repeat (first | (refine C_p (v := ?_) rfl rfl (fun w' => ?_) ?_; rotate_left; (go_simp; with_reducible rfl); simp only [Act.put, List.setIfInBounds_toArray, List.set_cons_zero, List.set_cons_succ]) | (refine C_s (v := ?_) rfl rfl hS0 (fun w' hS => ?_) ?_; rotate_left; ((try dsimp only at hS); go_simp; with_reducible rfl); simp only [Act.put, List.setIfInBounds_toArray, List.set_cons_zero, List.set_cons_succ]) | (refine C_t (v := ?_) rfl rfl ?_ ?_; rotate_left; (go_simp; with_reducible rfl); simp only [Act.put, List.setIfInBounds_toArray, List.set_cons_zero, List.set_cons_succ]) | (refine C_po rfl rfl ?_; simp only [Act.put, List.setIfInBounds_toArray, List.set_cons_zero, List.set_cons_succ]) | (refine C_so rfl rfl hS0 ?_; simp only [Act.put, List.setIfInBounds_toArray, List.set_cons_zero, List.set_cons_succ]) | (refine C_to rfl rfl ?_; simp only [Act.put, List.setIfInBounds_toArray, List.set_cons_zero, List.set_cons_succ])))
                          (refine C_e rfl rfl (fun K hK => ?_); go_simp)
                          have h11 : Sat w w5 (sep (isM (Q t) (M t)) (sep (rBytes.is [.slice ab nb cb] bs) (sep ((rBytes.slice 1).is [.slice ax outs.length cx] outs) (sep (isEnd (P t) s) (sep (rsl (some ⟨b, 0, none⟩) [ptr (P 0), ptr (P 1)]) (sep (rsl (some ⟨bm, 0, none⟩) [ptr (Q 0), ptr (Q 1)]) (sep (isEnd (P (1 - t)) (absM (M (1 - t)))) (sep (isM (Q (1 - t)) (M (1 - t))) (linkR (some ⟨g, 0, none⟩) cl lc (some ⟨gt, 0, none⟩) ct l))))))))) := by
                            have := h10.p3.forget
                            simpa only [sep_comm, sep_lcomm, sep_assoc] using this
                          refine (rin_spec (Q t) (M t) 60 seq ack _ bs h11 HR.out.ok hsq HR.out.rdy (by have := HR.out.held; omega)).mono ?_
                          rintro e w6 ⟨ay, cy, outs2, m', rfl, hp2, hok', hr', hs', hw', hl', hwy, h12⟩
                          obtain ⟨e1, e2⟩ := inPost_one hpost hp2
                          subst e1
                          clear hS0 h10 h11 hpost hp2
                          (refine hK _ _ (fun h => by cases h) ?_; clear hK K; (try simp only [Act.put, List.setIfInBounds_toArray, List.set_cons_zero, List.set_cons_succ]))
                          (repeat (first | (refine C_p (v := ?_) rfl rfl (fun w' => ?_) ?_; rotate_left; (go_simp; with_reducible rfl); simp only [Act.put, List.setIfInBounds_toArray, List.set_cons_zero, List.set_cons_succ]) | (refine C_s (v := ?_) rfl rfl hS0 (fun w' hS => ?_) ?_; rotate_left; ((try dsimp only at hS); go_simp; with_reducible rfl); simp only [Act.put, List.setIfInBounds_toArray, List.set_cons_zero, List.set_cons_succ]) | (refine C_t (v := ?_) rfl rfl ?_ ?_; rotate_left; (go_simp; with_reducible rfl); simp only [Act.put, List.setIfInBounds_toArray, List.set_cons_zero, List.set_cons_succ]) | (refine C_po rfl rfl ?_; simp only [Act.put, List.setIfInBounds_toArray, List.set_cons_zero, List.set_cons_succ]) | (refine C_so rfl rfl hS0 ?_; simp only [Act.put, List.setIfInBounds_toArray, List.set_cons_zero, List.set_cons_succ]) | (refine C_to rfl rfl ?_; simp only [Act.put, List.setIfInBounds_toArray, List.set_cons_zero, List.set_cons_succ])))
                          (refine C_e rfl rfl (fun K hK => ?_); go_simp)
                          refine (sameLists_spec ax ay outs.length cx cy outs rfl hwx h12.p2).mono ?_
                          rintro e w7 ⟨rfl, h13⟩
                          (refine hK _ _ (fun h => by cases h) ?_; clear hK K; (try simp only [Act.put, List.setIfInBounds_toArray, List.set_cons_zero, List.set_cons_succ]))
                          (repeat (first | (refine C_p (v := ?_) rfl rfl (fun w' => ?_) ?_; rotate_left; (go_simp; with_reducible rfl); simp only [Act.put, List.setIfInBounds_toArray, List.set_cons_zero, List.set_cons_succ]) | (refine C_s (v := ?_) rfl rfl hS0 (fun w' hS => ?_) ?_; rotate_left; ((try dsimp only at hS); go_simp; with_reducible rfl); simp only [Act.put, List.setIfInBounds_toArray, List.set_cons_zero, List.set_cons_succ]) | (refine C_t (v := ?_) rfl rfl ?_ ?_; rotate_left; (go_simp; with_reducible rfl); simp only [Act.put, List.setIfInBounds_toArray, List.set_cons_zero, List.set_cons_succ]) | (refine C_po rfl rfl ?_; simp only [Act.put, List.setIfInBounds_toArray, List.set_cons_zero, List.set_cons_succ]) | (refine C_so rfl rfl hS0 ?_; simp only [Act.put, List.setIfInBounds_toArray, List.set_cons_zero, List.set_cons_succ]) | (refine C_to rfl rfl ?_; simp only [Act.put, List.setIfInBounds_toArray, List.set_cons_zero, List.set_cons_succ])))
                          refine C_nil ?_
                          go_wp2_with fail
                          go_meet
                          rw [HL.out]
                          exact runs_in_core hI (by rw [← HL.out]; exact hll) ht2 hok' hr' hs' hw' hl' e2 h13
          case rest =>
            clear hS hI hll
            obtain ⟨R, hR, hRR⟩ := hcut.rel
            clear hcut
            go_wp2_with fail
            go_loopw [21] (fun jv wr => ∃ j : Nat, j ≤ 2 ∧ jv = .int .i64 j ∧ R wr) (fun j _ => 2 - (intOf j).toNat)
            case atStart => exact ⟨0, by omega, rfl, hR⟩
            case round =>
              clear hR
              obtain ⟨j, hj, rfl, hC⟩ := hrel
              by_cases hj2 : j < 2
              · /-DEV-/
                have hbj : decide ((j : Int) < 2) = true := by simp; omega
                have hj3 : (j : Int) < 2 := by omega
                obtain ⟨M, l, al, cl, lc, at', ct, rfl, rfl, hll, hI, hS⟩ := (hRR _).1 hC
                have HRR := Lib.hid hRR
                clear hRR hC
                have hR := hI.1 j hj2
                have h6 := hS.drew
                rw [runsA_pick j hj2] at h6
                simp only [sep_assoc] at h6
                obtain ⟨aS, cS, vS, aH, cH, vH, h7⟩ := isM_open h6.p1
                obtain ⟨sl, hsl⟩ : ∃ sl, sl = (M j).sent.length := ⟨_, rfl⟩
                obtain ⟨q2, hq2'⟩ : ∃ q2, q2 = (M j).acked := ⟨_, rfl⟩
                obtain ⟨u, hu⟩ : ∃ u, u = sl - q2 := ⟨_, rfl⟩
                have hwl : (absM (M j)).wait.length = u := by show ((M j).sent.drop (M j).acked).length = _; rw [List.length_drop, ← hsl, ← hq2', hu]
                have hle : q2 ≤ sl ∧ sl ≤ 1000 := by rw [hsl, hq2']; exact ⟨hR.ok.ack, hR.ok.len⟩
                have hsub2 : (sl : Int) - (q2 : Int) = (u : Int) := by omega
                have hsub3 : IntKind.i64.wrap ((sl : Int) - (q2 : Int)) = (u : Int) := by rw [hsub2]; exact IntWalk.i64_in _ (by omega)
                have hsub4 : IntKind.i64.wrap (u : Int) = (u : Int) := IntWalk.i64_in _ (by omega)
                have k1 : ((u : Int) != (u : Int)) = false := by simp
                have h8 : Sat w wr.drew (sep (isEnd (P j) (absM (M j))) (sep (blk (Q j) (.cells (mCells (M j) aS cS aH cH) 50 (0, 0))) (sep (rsl (some ⟨b, 0, none⟩) [ptr (P 0), ptr (P 1)]) (sep (rsl (some ⟨bm, 0, none⟩) [ptr (Q 0), ptr (Q 1)]) (sep (sep (osl 31 1 aS (M j).sent.length cS vS) (sep ((rBytes.rows 1).is vS (M j).sent) (sep (osl 91 2 aH (M j).held.length cH vH) ((rHeld.rows 2).is vH (M j).held)))) (sep (isEnd (P (1 - j)) (absM (M (1 - j)))) (sep (isM (Q (1 - j)) (M (1 - j))) (linkR al cl lc at' ct l)))))))) := by
                  simp only [mAt] at h7
                  simpa only [sep_comm, sep_lcomm, sep_assoc] using h7
                have HSL := Lib.hid hsl
                have HQ2 := Lib.hid hq2'
                have hcells : ∀ w', Sat w w' (sep (isEnd (P j) (absM (M j))) (sep (blk (Q j) (.cells (mCells (M j) aS cS aH cH) 50 (0, 0))) (sep (rsl (some ⟨b, 0, none⟩) [ptr (P 0), ptr (P 1)]) (sep (rsl (some ⟨bm, 0, none⟩) [ptr (Q 0), ptr (Q 1)]) (sep (sep (osl 31 1 aS (M j).sent.length cS vS) (sep ((rBytes.rows 1).is vS (M j).sent) (sep (osl 91 2 aH (M j).held.length cH vH) ((rHeld.rows 2).is vH (M j).held)))) (sep (isEnd (P (1 - j)) (absM (M (1 - j)))) (sep (isM (Q (1 - j)) (M (1 - j))) (linkR al cl lc at' ct l)))))))) →
                    w'.cell? ⟨bm, j, none⟩ = some (.pointer (some ⟨Q j, 0, none⟩)) ∧ w'.cell? ⟨Q j, 1, none⟩ = some (.slice aS sl cS) ∧ w'.cell? ⟨Q j, 2, none⟩ = some (.int .i64 q2) := by
                  intro w' h
                  exact ⟨two_cellk (f := fun k => ptr (Q k)) h.p3 j hj2, by rw [HSL.out]; exact h.p1.cell 1, by rw [HQ2.out]; exact h.p1.cell 2⟩
                have hS0 := hcells _ h8
                have ce : wr.drew.cell? ⟨b, j, none⟩ = some (.pointer (some ⟨P j, 0, none⟩)) := two_cellk (f := fun k => ptr (P k)) h8.p2 j hj2
                have HI := Lib.hid hI
                have HWL := Lib.hid hwl
                clear h6 h7 hS hR hsl hq2' hu hwl hI
                go_wp2_with fail
                refine wp_region_canon rfl (fun w' => w'.cell? ⟨bm, j, none⟩ = some (.pointer (some ⟨Q j, 0, none⟩)) ∧ w'.cell? ⟨Q j, 1, none⟩ = some (.slice aS sl cS) ∧ w'.cell? ⟨Q j, 2, none⟩ = some (.int .i64 q2)) [(0, .p), (1, .p), (2, .p), (3, .t), (5, .p), (6, .p), (7, .p), (8, .s), (9, .p), (10, .p), (11, .s), (12, .p), (13, .p), (14, .p), (15, .p), (16, .s), (17, .p), (18, .p), (19, .s), (20, .p), (4, .e true), (21, .p)] (by kernel_rfl) ?_
                (repeat (first | (refine C_p (v := ?_) rfl rfl (fun w' => ?_) ?_; rotate_left; (go_simp; with_reducible rfl); simp only [Act.put, List.setIfInBounds_toArray, List.set_cons_zero, List.set_cons_succ]) | (refine C_s (v := ?_) rfl rfl hS0 (fun w' hS => ?_) ?_; rotate_left; ((try dsimp only at hS); go_simp; with_reducible rfl); simp only [Act.put, List.setIfInBounds_toArray, List.set_cons_zero, List.set_cons_succ]) | (refine C_t (v := ?_) rfl rfl ?_ ?_; rotate_left; (go_simp; with_reducible rfl); simp only [Act.put, List.setIfInBounds_toArray, List.set_cons_zero, List.set_cons_succ]) | (refine C_po rfl rfl ?_; simp only [Act.put, List.setIfInBounds_toArray, List.set_cons_zero, List.set_cons_succ]) | (refine C_so rfl rfl hS0 ?_; simp only [Act.put, List.setIfInBounds_toArray, List.set_cons_zero, List.set_cons_succ]) | (refine C_to rfl rfl ?_; simp only [Act.put, List.setIfInBounds_toArray, List.set_cons_zero, List.set_cons_succ])))
                (refine C_e rfl rfl (fun K hK => ?_); go_simp)
                refine (waiting_spec (P j) _ h8).mono ?_
                rintro e w4 ⟨rfl, h9⟩
                clear hS0 h8 ce
                have hS0 := hcells _ h9
                rw [HWL.out]
                (refine hK _ _ (fun _ => hS0) ?_; clear hK K; (try simp only [Act.put, List.setIfInBounds_toArray, List.set_cons_zero, List.set_cons_succ]))
                (repeat (first | (refine C_p (v := ?_) rfl rfl (fun w' => ?_) ?_; rotate_left; (go_simp; with_reducible rfl); simp only [Act.put, List.setIfInBounds_toArray, List.set_cons_zero, List.set_cons_succ]) | (refine C_s (v := ?_) rfl rfl hS0 (fun w' hS => ?_) ?_; rotate_left; ((try dsimp only at hS); go_simp; with_reducible rfl); simp only [Act.put, List.setIfInBounds_toArray, List.set_cons_zero, List.set_cons_succ]) | (refine C_t (v := ?_) rfl rfl ?_ ?_; rotate_left; (go_simp; with_reducible rfl); simp only [Act.put, List.setIfInBounds_toArray, List.set_cons_zero, List.set_cons_succ]) | (refine C_po rfl rfl ?_; simp only [Act.put, List.setIfInBounds_toArray, List.set_cons_zero, List.set_cons_succ]) | (refine C_so rfl rfl hS0 ?_; simp only [Act.put, List.setIfInBounds_toArray, List.set_cons_zero, List.set_cons_succ]) | (refine C_to rfl rfl ?_; simp only [Act.put, List.setIfInBounds_toArray, List.set_cons_zero, List.set_cons_succ])))
                refine C_nil ?_
                clear hS0 hcells
                go_wp2_with fail
                go_roundw
                case rel =>
                  refine ⟨j + 1, by omega, by go_num, (HRR.out _).2 ⟨M, l, al, cl, lc, at', ct, rfl, rfl, hll, HI.out, ?_⟩⟩
                  rw [runsA_pick j hj2]
                  have h10 : Sat w w4 (sep (mAt (Q j) (M j) aS cS vS aH cH vH) (sep (isEnd (P j) (absM (M j))) (sep (rsl (some ⟨b, 0, none⟩) [ptr (P 0), ptr (P 1)]) (sep (rsl (some ⟨bm, 0, none⟩) [ptr (Q 0), ptr (Q 1)]) (sep (isEnd (P (1 - j)) (absM (M (1 - j)))) (sep (isM (Q (1 - j)) (M (1 - j))) (linkR al cl lc at' ct l))))))) := by
                    simp only [mAt]
                    simpa only [sep_comm, sep_lcomm, sep_assoc] using h9
                  have h11 := isM_mk h10
                  simpa only [sep_comm, sep_lcomm, sep_assoc] using h11
                case measure => simp [intOf]; omega
                /-VED-/
              · have hbj : decide ((j : Int) < 2) = false := by simp; omega
                go_wp2_with fail
                go_roundw
                case rel => exact ⟨i + 1, by omega, by omega, by go_num, (hRR _).1 hC⟩
                case measure => simp [intOf]; omega
        · by_cases h5 : i < len1
          · have g1 : decide ((i : Int) < (len1 : Int)) = true := by simp; omega
            have g2 : decide ((i : Int) < 60) = false := by simp; omega
            go_wp2_with fail
            refine (lives36_spec hS).mono ?_
            rintro e w3 ⟨rfl, h4⟩
            go_wp2_with fail
            go_ret
            exact ⟨rfl, h4.below⟩
          · have g1 : decide ((i : Int) < (len1 : Int)) = false := by simp; omega
            go_wp2_with fail
            refine (lives36_spec hS).mono ?_
            rintro e w3 ⟨rfl, h4⟩
            go_wp2_with fail
            go_ret
            exact ⟨rfl, h4.below⟩
end Go.Proofs.Ytnmkdidhilekiaa
