/- ChannelCopies, the walk. -/
import Derived.Test.YtnmkdidhilekiaaCop
import Derived.Deep.DeepCutAuto
namespace Go.Proofs.Ytnmkdidhilekiaa
open Go.RowKit PA
theorem pkCells_at : ∀ (vs : List Value) (a d : Int) (i : Nat) (v : Value), vs[i]? = some v → (pkCells a d vs)[i * 3]? = some (.int .i64 (a + i + 1)) ∧ (pkCells a d vs)[i * 3 + 1]? = some (.int .i64 d) ∧ (pkCells a d vs)[i * 3 + 2]? = some v
  | [], _, _, _, _, h => by simp at h
  | x :: vs, a, d, 0, v, h => by
    simp at h
    subst h
    exact ⟨by simp [pkCells], rfl, rfl⟩
  | x :: vs, a, d, i + 1, v, h => by
    obtain ⟨h1, h2, h3⟩ := pkCells_at vs (a + 1) d i v (by simpa using h)
    rw [show (i + 1) * 3 = i * 3 + 3 by omega]
    refine ⟨?_, h2, h3⟩
    show (pkCells (a + 1) d vs)[i * 3]? = _
    rw [h1]
    congr 2
    omega
theorem msgs_take (n k : Nat) (h : k ≤ n) : (msgs n).take k = msgs k := by
  unfold msgs
  rw [← List.map_take, List.take_range, Nat.min_eq_left h]
def CopA (b bb : Nat) (P : Nat → Nat) (x0 x1 : Int) (i : Nat) (x : UInt8) : Assn :=
  sep (isEnd (P 0) (sentSt x0 i)) (sep (blk bb (.cells #[bv x] 5 (0, 0))) (sep (rsl (some ⟨b, 0, none⟩) [ptr (P 0), ptr (P 1)]) (isEnd (P 1) (newEnd x1))))
def CopRel (W : World) (b bb : Nat) (P : Nat → Nat) (x0 x1 : Int) (n ct : Nat) (cv iv : Value) (wr : World) : Prop :=
  ∃ (i : Nat) (x : UInt8), i ≤ n ∧ iv = .int .i64 i ∧
   ((i ≤ ct ∧ cv = .pointer none ∧ Sat W wr (CopA b bb P x0 x1 i x)) ∨ (ct < i ∧ ∃ pc, cv = .pointer (some ⟨pc, 0, none⟩) ∧ Sat W wr (sep (isEnd pc (sentSt x0 i)) (CopA b bb P x0 x1 i x))))
set_option maxHeartbeats 4000000 in
set_option maxRecDepth 100000 in
theorem channelCopies_walk (a0 a1 a2 : Int) (w : World) (w0 : (Lit.int .i64 a0).wf = true) (w1 : (Lit.int .i64 a1).wf = true) (w2 : (Lit.int .i64 a2).wf = true) :
    Calls Try.prog 7 #[.int .i64 a0, .int .i64 a1, .int .i64 a2] w fun e w' => e = .returned (.bool true) ∧ Below w.heap.size w w' := by
  obtain ⟨b0, b1⟩ := i64_of_wf w0
  obtain ⟨b2, b3⟩ := i64_of_wf w1
  obtain ⟨b4, b5⟩ := i64_of_wf w2
  clear w0 w1 w2
  have qE : ∀ (w : World) (a : Option Addr) (n c n' c' : Nat), (binOp .eql 23 (.slice a n c) (.slice none n' c')).run Try.prog w = .ok (.bool a.isNone) w := fun w a n c n' c' => Lib.run_eql_slice_nil w _ _ a n c n' c' Try.underlying23
  go_enter Try.func7, Try.ntmps7
  go_wp2_with fail
  refine (ends_spec a0 (Sat.start w) b0 b1).mono ?_
  rintro e w1 ⟨b, P, rfl, h1⟩
  clear b0 b1
  obtain ⟨x0, x1, hx, hw1, hw2⟩ : ∃ x0 x1 : Int, isTwo P (fun k => newEnd (1 + aroundI (if k = 0 then a0 else a0.tdiv 16) 16)) = sep (isEnd (P 0) (newEnd x0)) (isEnd (P 1) (newEnd x1)) ∧ 1 ≤ x0 ∧ x0 ≤ 16 :=
    ⟨_, _, rfl, by have := aroundI_lt a0 16 (by omega); simp; omega, by have := aroundI_lt a0 16 (by omega); simp; omega⟩
  rw [hx] at h1
  clear hx
  go_wp2_with fail
  refine (around_spec a1 12 _ b2 b3 (by omega) (by omega)).mono ?_
  rintro e w2 ⟨rfl, rfl⟩
  obtain ⟨e1, e2⟩ := aroundI_lt a1 12 (by omega)
  obtain ⟨n, hn⟩ : ∃ n : Nat, aroundI a1 12 = n := ⟨(aroundI a1 12).toNat, by omega⟩
  rw [hn] at e1 e2 ⊢
  have hn12 : n < 12 := by omega
  clear hn e1 e2 b2 b3
  obtain ⟨ct, hct⟩ : ∃ ct : Nat, ct = (aroundI a2 n).toNat := ⟨_, rfl⟩
  have hct2 : 0 < n → aroundI a2 n = ct ∧ ct < n := fun h => by have := aroundI_lt a2 n (by omega); omega
  clear hct
  go_wp2_with fail
  have h2 := h1.alloc (.cells #[.int .u8 0] 5)
  obtain ⟨bb, hbb⟩ : ∃ bb, bb = w1.heap.size := ⟨_, rfl⟩
  rw [← hbb] at h2 ⊢
  have h3 : Sat w (w1.alloc (.cells #[.int .u8 0] 5)) (CopA b bb P x0 x1 0 0) := by
    rw [← sep_emp (CopA _ _ _ _ _ _ _)]
    simp only [CopA]
    rw [show #[bv 0] = #[.int .u8 0] from rfl]
    rw [show sentSt x0 0 = newEnd x0 from rfl]
    simpa only [sep_comm, sep_lcomm, sep_assoc] using h2
  generalize (w1.alloc (.cells #[.int .u8 0] 5)) = w3 at h3 ⊢
  clear h1 h2 hbb
  go_loopw [10, 11] (CopRel w b bb P x0 x1 n ct) (fun _ i _ => n - (intOf i).toNat)
  case atStart => exact ⟨0, 0, by omega, rfl, .inl ⟨by omega, rfl, h3⟩⟩
  case round =>
    clear h3
    obtain ⟨i, x, hi, rfl, hS⟩ := hrel
    by_cases hin : i < n
    · have f1 : decide ((i : Int) < (n : Int)) = true := by simp; omega
      obtain ⟨hca, hcn⟩ := hct2 (by omega)
      have HCA := Lib.hid hca
      clear hca hct2
      have hbyte : (i : Nat) % 256 = i := by omega
      have hcv : #[bv x].setIfInBounds 0 (.int .u8 (i : Int)) = #[bv (UInt8.ofNat i)] := by
        have : i % 256 = i := by omega
        simp [bv, this]
      have HCV := Lib.hid hcv
      clear hcv
      have hsnd : ∀ j, ({ sentSt x0 j with wait := (sentSt x0 j).wait ++ [[UInt8.ofNat j]] } : AEnd) = sentSt x0 (j + 1) := fun j => sent_succ x0 j
      have hwl : (sentSt x0 i).wait.length < 1000 := by simp [sentSt, proSt, msgs_len]; omega
      rcases hS with ⟨hic, rfl, hS⟩ | ⟨hic, pc, rfl, hS⟩
      · by_cases heq : i = ct
        · subst heq
          have f2 : ((i : Int) == (i : Int)) = true := by simp
          have ce0 : wr.cell? ⟨b, 0, none⟩ = some (.pointer (some ⟨P 0, 0, none⟩)) := by simp only [CopA] at hS; exact (two_cell (hS.p2)).1
          go_wp2_with fail
          refine (around_spec a2 n _ b4 b5 (by omega) (by omega)).mono ?_
          rintro e w4 ⟨rfl, rfl⟩
          rw [HCA.out]
          go_wp2_with fail
          have hS' := hS
          simp only [CopA] at hS'
          refine (copy_spec (P 0) _ hS' rfl (by omega)).mono ?_
          rintro e w4 ⟨pc, rfl, h4⟩
          have h4' : Sat w w4 (sep (isEnd pc (sentSt x0 i)) (CopA b bb P x0 x1 i x)) := by simp only [CopA]; exact h4
          clear hS hS' h4 ce0
          have g0 : Sat w w4 (sep (blk bb (.cells #[bv x] 5 (0, 0))) (sep (isEnd (P 0) (sentSt x0 i)) (sep (rsl (some ⟨b, 0, none⟩) [ptr (P 0), ptr (P 1)]) (sep (isEnd (P 1) (newEnd x1)) (isEnd pc (sentSt x0 i)))))) := by
            simp only [CopA] at h4'; simpa only [sep_comm, sep_lcomm, sep_assoc] using h4'
          have g1 := g0.setCell 0 (.int .u8 (i : Int))
          rw [HCV.out] at g1
          have cb : w4.cell? ⟨bb, 0, none⟩ = some (.int .u8 (x.toNat : Int)) := g0.cell 0
          have fb : w4.frozen? ⟨bb, 0, none⟩ = false := g0.unfrozen 0
          have ce : (w4.setCell ⟨bb, 0, none⟩ (.int .u8 (i : Int))).cell? ⟨b, 0, none⟩ = some (.pointer (some ⟨P 0, 0, none⟩)) := (two_cell g1.p2).1
          go_wp2_with fail
          refine (send_own (P 0) bb _ _ g1.p1 hwl).mono ?_
          rintro e w5 ⟨rfl, h5⟩
          rw [hsnd] at h5
          clear g0 g1 cb fb ce
          go_wp2_with fail
          have h6 : Sat w w5 (sep (isEnd pc (sentSt x0 i)) (sep (blk bb (.cells #[bv (UInt8.ofNat i)] 5 (0, 0))) (sep (isEnd (P 0) (sentSt x0 (i + 1))) (sep (rsl (some ⟨b, 0, none⟩) [ptr (P 0), ptr (P 1)]) (isEnd (P 1) (newEnd x1)))))) := by
            simpa only [sep_comm, sep_lcomm, sep_assoc] using h5
          refine (send_own pc bb _ _ h6 hwl).mono ?_
          rintro e w6 ⟨rfl, h7⟩
          rw [hsnd] at h7
          go_wp2_with fail
          go_roundw
          case rel =>
            exact ⟨i + 1, UInt8.ofNat i, by omega, by go_num, .inr ⟨by omega, pc, rfl, by simp only [CopA]; simpa only [sep_comm, sep_lcomm, sep_assoc] using h7⟩⟩
          case measure => simp [intOf]; omega
        · have f2 : ((i : Int) == (ct : Int)) = false := by simp; omega
          have g0 : Sat w wr (sep (blk bb (.cells #[bv x] 5 (0, 0))) (sep (isEnd (P 0) (sentSt x0 i)) (sep (rsl (some ⟨b, 0, none⟩) [ptr (P 0), ptr (P 1)]) (isEnd (P 1) (newEnd x1))))) := by
            simp only [CopA] at hS; simpa only [sep_comm, sep_lcomm, sep_assoc] using hS
          have g1 := g0.setCell 0 (.int .u8 (i : Int))
          rw [HCV.out] at g1
          have cb : wr.cell? ⟨bb, 0, none⟩ = some (.int .u8 (x.toNat : Int)) := g0.cell 0
          have fb : wr.frozen? ⟨bb, 0, none⟩ = false := g0.unfrozen 0
          have ce : (wr.setCell ⟨bb, 0, none⟩ (.int .u8 (i : Int))).cell? ⟨b, 0, none⟩ = some (.pointer (some ⟨P 0, 0, none⟩)) := (two_cell g1.p2).1
          go_wp2_with fail
          refine (around_spec a2 n _ b4 b5 (by omega) (by omega)).mono ?_
          rintro e w4 ⟨rfl, rfl⟩
          rw [HCA.out]
          go_wp2_with fail
          refine (send_own (P 0) bb _ _ g1.p1 hwl).mono ?_
          rintro e w5 ⟨rfl, h5⟩
          rw [hsnd] at h5
          clear g0 g1 cb fb ce
          go_wp2_with fail
          go_roundw
          case rel =>
            exact ⟨i + 1, UInt8.ofNat i, by omega, by go_num, .inl ⟨by omega, rfl, by simp only [CopA]; simpa only [sep_comm, sep_lcomm, sep_assoc] using h5⟩⟩
          case measure => simp [intOf]; omega
      · have f2 : ((i : Int) == (ct : Int)) = false := by simp; omega
        have g0 : Sat w wr (sep (blk bb (.cells #[bv x] 5 (0, 0))) (sep (isEnd (P 0) (sentSt x0 i)) (sep (rsl (some ⟨b, 0, none⟩) [ptr (P 0), ptr (P 1)]) (sep (isEnd (P 1) (newEnd x1)) (isEnd pc (sentSt x0 i)))))) := by
          simp only [CopA] at hS; simpa only [sep_comm, sep_lcomm, sep_assoc] using hS
        have g1 := g0.setCell 0 (.int .u8 (i : Int))
        rw [HCV.out] at g1
        have cb : wr.cell? ⟨bb, 0, none⟩ = some (.int .u8 (x.toNat : Int)) := g0.cell 0
        have fb : wr.frozen? ⟨bb, 0, none⟩ = false := g0.unfrozen 0
        have ce : (wr.setCell ⟨bb, 0, none⟩ (.int .u8 (i : Int))).cell? ⟨b, 0, none⟩ = some (.pointer (some ⟨P 0, 0, none⟩)) := (two_cell g1.p2).1
        go_wp2_with fail
        refine (around_spec a2 n _ b4 b5 (by omega) (by omega)).mono ?_
        rintro e w4 ⟨rfl, rfl⟩
        rw [HCA.out]
        go_wp2_with fail
        refine (send_own (P 0) bb _ _ g1.p1 hwl).mono ?_
        rintro e w5 ⟨rfl, h5⟩
        rw [hsnd] at h5
        clear g0 g1 cb fb ce
        go_wp2_with fail
        have h6 : Sat w w5 (sep (isEnd pc (sentSt x0 i)) (sep (blk bb (.cells #[bv (UInt8.ofNat i)] 5 (0, 0))) (sep (isEnd (P 0) (sentSt x0 (i + 1))) (sep (rsl (some ⟨b, 0, none⟩) [ptr (P 0), ptr (P 1)]) (isEnd (P 1) (newEnd x1)))))) := by
          simpa only [sep_comm, sep_lcomm, sep_assoc] using h5
        refine (send_own pc bb _ _ h6 hwl).mono ?_
        rintro e w6 ⟨rfl, h7⟩
        rw [hsnd] at h7
        go_wp2_with fail
        go_roundw
        case rel =>
          exact ⟨i + 1, UInt8.ofNat i, by omega, by go_num, .inr ⟨by omega, pc, rfl, by simp only [CopA]; simpa only [sep_comm, sep_lcomm, sep_assoc] using h7⟩⟩
        case measure => simp [intOf]; omega
    · have f1 : decide ((i : Int) < (n : Int)) = false := by simp; omega
      have hin2 : i = n := by omega
      subst hin2
      clear hi b4 b5
      obtain ⟨nn, hnn⟩ : ∃ nn : Nat, (nn : Int) = min ((sentSt x0 i).wait.length : Int) x0 := ⟨(min ((sentSt x0 i).wait.length : Int) x0).toNat, by omega⟩
      have hwl : (sentSt x0 i).wait.length = i := by simp [sentSt, proSt, msgs_len]
      have hnn2 := hnn
      rw [hwl] at hnn2
      have hoN : outN (sentSt x0 i) nn = nn := by simp [outN, sentSt, proSt]
      have HNN := Lib.hid hnn
      have HON := Lib.hid hoN
      have HWL := Lib.hid hwl
      clear hnn hoN hwl
      rcases hS with ⟨hic, rfl, hS⟩ | ⟨hic, pc, rfl, hS⟩
      · have hi0 : i = 0 := by
          by_cases h : 0 < i
          · have := (hct2 h).2; omega
          · omega
        have hn0 : nn = 0 := by omega
        have f5 : ((i : Int) == 0) = true := by simp [hi0]
        have f6 : decide (0 < nn) = false := by simp [hn0]
        have f7 : (0 < nn) = False := by simp [hn0]
        clear hi0 hn0 hct2 hnn2
        have ce : wr.cell? ⟨b, 0, none⟩ = some (.pointer (some ⟨P 0, 0, none⟩)) := by simp only [CopA] at hS; exact (two_cell (hS.p2)).1
        go_wp2_with fail
        refine (out_pkts (P 0) (sentSt x0 i) hS hw1 hw2 nn HNN.out (by simp [sentSt, proSt]) (by simp [sentSt, proSt]) (msgs_short _ _)).mono ?_
        rintro e w3 ⟨ap, cp, he, hwp, hP⟩
        rw [HON.out] at he hwp hP
        subst he
        clear hS ce
        go_wp2_with fail
        go_loopw [13] (fun jv wr => jv = .int .i64 0 ∧ ∃ X, Sat w wr X) (fun _ _ => 0)
        case atStart => exact ⟨rfl, _, hP⟩
        case round =>
          clear hP
          obtain ⟨rfl, X, hS⟩ := hrel
          go_wp2_with fail
          refine (lives36_spec hS).mono ?_
          rintro e w4 ⟨rfl, h4⟩
          go_wp2_with fail
          go_ret
          exact ⟨rfl, h4.below⟩
      · have hi0 : 0 < i := by omega
        have hn1 : 0 < nn := by omega
        have hn16 : nn ≤ 12 := by omega
        have hni : nn ≤ i := by omega
        clear hct2 hnn2 hic
        have hoC : ∀ vs, outCells (sentSt x0 i) nn vs = pkCells 0 0 vs := fun vs => by simp [outCells, sentSt, proSt]
        have htk : (sentSt x0 i).wait.take nn = msgs nn := by show ((msgs i).drop 0).take nn = _; rw [List.drop_zero, msgs_take i nn hni]
        have h1 : Sat w wr (sep (isEnd (P 0) (sentSt x0 i)) (sep (isEnd pc (sentSt x0 i)) (sep (rsl (some ⟨b, 0, none⟩) [ptr (P 0), ptr (P 1)]) (sep (isEnd (P 1) (newEnd x1)) (blk bb (.cells #[bv x] 5 (0, 0))))))) := by
          simp only [CopA] at hS; simpa only [sep_comm, sep_lcomm, sep_assoc] using hS
        have ce : wr.cell? ⟨b, 0, none⟩ = some (.pointer (some ⟨P 0, 0, none⟩)) := (two_cell (h1.p2)).1
        clear hS
        go_wp2_with fail
        refine (out_spec (P 0) (sentSt x0 i) h1 hw1 hw2 nn HNN.out (by simp [sentSt, proSt]) (by simp [sentSt, proSt]) (msgs_short _ _)).mono ?_
        rintro e w3 ⟨a, c, vs, he, hvs, hP⟩
        rw [hoC, htk, HON.out] at hP
        rw [HON.out] at he
        subst he
        have hoC' := Lib.hid hoC
        have HTK := Lib.hid htk
        have HVS := Lib.hid hvs
        clear hoC htk hvs h1 ce
        rw [show ({ sentSt x0 i with ow := false } : AEnd) = sentSt x0 i from rfl] at hP
        go_wp2_with fail
        go_loopw [13] (fun jv wr => ∃ j : Nat, j ≤ nn ∧ jv = .int .i64 j ∧ Sat w wr (sep (osl 44 3 a nn c (pkCells 0 0 vs)) (sep (ownB ((vs.zip (msgs nn)).drop j)) (sep (isEnd (P 0) (sentSt x0 i)) (sep (isEnd pc (sentSt x0 i)) (sep (rsl (some ⟨b, 0, none⟩) [ptr (P 0), ptr (P 1)]) (sep (isEnd (P 1) (newEnd x1)) (blk bb (.cells #[bv x] 5 (0, 0)))))))))) (fun j _ => nn - (intOf j).toNat)
        case atStart => exact ⟨0, by omega, rfl, by simpa using hP⟩
        case round =>
          clear hP
          obtain ⟨j, hj, rfl, hS⟩ := hrel
          by_cases hjn : j < nn
          · have f2 : decide ((j : Int) < (nn : Int)) = true := by simp; omega
            have hjI : (j : Int) < (nn : Int) := by omega
            have hjv : j < vs.length := by rw [HVS.out]; exact hjn
            have hz : (vs.zip (msgs nn)).drop j = (vs[j], [UInt8.ofNat j]) :: (vs.zip (msgs nn)).drop (j + 1) := by
              rw [List.drop_eq_getElem_cons (by rw [List.length_zip, HVS.out, msgs_len]; omega)]
              simp [msgs_get]
            rw [hz] at hS
            have h2 := hS.p1
            simp only [ownB, ex_sep, Sat.ex, sep_assoc] at h2
            obtain ⟨ab, cb, h2⟩ := h2
            obtain ⟨hv, h3⟩ := Sat.fact.1 h2
            rcases h3.osl_cases with ⟨-, h0, -⟩ | ⟨g, cur, rfl, -, hlc, hcm, hcs, htake, h4⟩
            · simp at h0
            · obtain ⟨gp, rfl, hcp⟩ := h4.p2.osl_at (by intro e; have := (pkCells_at vs 0 0 j vs[j] (List.getElem?_eq_getElem hjv)).1; rw [e] at this; simp at this)
              have hv' : vs[j]? = some (.slice (some ⟨g, 0, none⟩) 1 cb) := by rw [List.getElem?_eq_getElem hjv, hv]; rfl
              have gp2 := hcp _ _ (pkCells_at vs 0 0 j _ hv').2.2
              have hcb : 1 ≤ cb := hlc
              have gc : wr.cell? ⟨g, 0, none⟩ = some (.int .u8 (j : Int)) := by
                rw [h4.cell 0]
                have : cur.toList[0]? = some (bv (UInt8.ofNat j)) := by
                  have := congrArg (fun l => l[0]?) htake
                  simpa [List.getElem?_take] using this
                have h256 : j % 256 = j := by omega
                simpa [bv, h256] using this
              have gf : wr.frozen? ⟨g, 0, none⟩ = false := h4.unfrozen 0
              have h5 := (h4.setCell 0 (.int .u8 99)).forget
              have f3 : ((j : Int) != (j : Int)) = false := by simp
              clear hz h2 hv h3 h4 hcp hv' htake hcs hcm hlc hS hjv
              go_wp2_with fail
              go_roundw
              case rel => exact ⟨j + 1, by omega, by go_num, by simpa only [sep_comm, sep_lcomm, sep_assoc] using h5⟩
              case measure => simp [intOf]; omega
          · have f2 : decide ((j : Int) < (nn : Int)) = false := by simp; omega
            have h1 : Sat w wr (sep (isEnd (P 0) (sentSt x0 i)) (sep (isEnd pc (sentSt x0 i)) (sep (rsl (some ⟨b, 0, none⟩) [ptr (P 0), ptr (P 1)]) (sep (isEnd (P 1) (newEnd x1)) (blk bb (.cells #[bv x] 5 (0, 0))))))) := by
              have := hS.p1.drop.drop
              exact this
            have ce : wr.cell? ⟨b, 0, none⟩ = some (.pointer (some ⟨P 0, 0, none⟩)) := (two_cell (h1.p2)).1
            clear hS
            go_wp2_with fail
            refine (in_zero (P 0) (sentSt x0 i) 0 i (.slice none 0 0) [] h1.bytes_nil.p1 (by simp [validB]) (by rw [HWL.out]; simp [sentSt, proSt]) (by simp [sentSt, proSt]) rfl (by simp [sentSt, proSt]) (by rw [HWL.out]; simp [sentSt, proSt]; omega) (by simp [sentSt, proSt]) (by simp [sentSt, proSt]) (by simp)).mono ?_
            rintro e w4 ⟨rfl, h3⟩
            rw [show ackSt (sentSt x0 i) i = proSt x0 i i 0 false from ack_pro _ _ _ _ _ _ (by omega)] at h3
            clear h1 ce
            go_wp2_with fail
            refine (out_pkts pc (sentSt x0 i) h3.p1 hw1 hw2 nn HNN.out (by simp [sentSt, proSt]) (by simp [sentSt, proSt]) (msgs_short _ _)).mono ?_
            rintro e w5 ⟨ap, cp, he, hwp, h4⟩
            rw [HON.out] at he hwp h4
            subst he
            obtain ⟨ps, hps⟩ : ∃ ps, ps = outPkts (sentSt x0 i) nn := ⟨_, rfl⟩
            rw [← hps] at h4
            have hpk : ∀ r (h : r < ps.length), ps[r] = ⟨r + 1, 0, [UInt8.ofNat r]⟩ := by
              have e : outPkts (sentSt x0 i) nn = pkList 0 0 (msgs nn) := by
                unfold outPkts
                rw [if_neg (by simp [sentSt, proSt]), HTK.out]; rfl
              intro r h
              simp only [hps, e]
              rw [pkList_get]
              simp [msgs_get]
            have hpl : ps.length = nn := by rw [hps, outPkts_length _ _ (by rw [HWL.out]; exact hni), HON.out]
            have HPK := Lib.hid hpk
            have HPL := Lib.hid hpl
            rw [show ({ sentSt x0 i with ow := false } : AEnd) = sentSt x0 i from rfl] at h4
            clear h3 hps hpk hpl
            go_wp2_with fail
            go_loopw [15] (fun jv wr => ∃ j : Nat, j ≤ nn ∧ jv = .int .i64 j ∧ Sat w wr (sep ((rPkt.slice 3).is [.slice ap nn cp] ps) (sep (isEnd pc (sentSt x0 i)) (sep (isEnd (P 0) (proSt x0 i i 0 false)) (sep (rsl (some ⟨b, 0, none⟩) [ptr (P 0), ptr (P 1)]) (sep (isEnd (P 1) (newEnd x1)) (blk bb (.cells #[bv x] 5 (0, 0))))))))) (fun j _ => nn - (intOf j).toNat)
            case atStart => exact ⟨0, by omega, rfl, h4⟩
            case round =>
              clear h4
              obtain ⟨r, hr, rfl, hS⟩ := hrel
              by_cases hrn : r < nn
              · have f3 : decide ((r : Int) < (nn : Int)) = true := by simp; omega
                have hrI : (r : Int) < (nn : Int) := by omega
                obtain ⟨bp, op, v, rfl, g00, g01, g02, h7⟩ := pkt_get hS r (by rw [HPL.out]; exact hrn)
                rw [HPK.out] at g00 h7
                obtain ⟨ab, cb, rfl, -, h8⟩ := h7.bytes_open
                obtain ⟨bz, oz, rfl, hcz⟩ := h8.rsl_at (by simp)
                have gz := hcz 0 _ rfl
                have h256 : r % 256 = r := by omega
                simp [bv, h256] at gz
                simp only [List.length_singleton] at g02
                have f4 : ((r : Int) != (r : Int)) = false := by simp
                clear h7 h8 hcz h256
                go_wp2_with fail
                go_roundw
                case rel => exact ⟨r + 1, by omega, by go_num, hS⟩
                case measure => simp [intOf]; omega
              · have f3 : decide ((r : Int) < (nn : Int)) = false := by simp; omega
                have f4 : ((nn : Int) == (nn : Int)) = true := by simp
                have ce : wr.cell? ⟨b, 0, none⟩ = some (.pointer (some ⟨P 0, 0, none⟩)) := (two_cell (hS.p3)).1
                go_wp2_with fail
                refine (waiting_spec pc _ hS.p1).mono ?_
                rintro e w6 ⟨he, h7⟩
                rw [HWL.out] at he
                subst he
                have ce : w6.cell? ⟨b, 0, none⟩ = some (.pointer (some ⟨P 0, 0, none⟩)) := (two_cell (h7.p3)).1
                have f5 : ((i : Int) == (i : Int)) = true := by simp
                go_wp2_with fail
                refine (waiting_spec (P 0) _ h7.p2).mono ?_
                rintro e w7 ⟨he, h8⟩
                rw [show ((proSt x0 i i 0 false).wait.length : Int) = 0 by simp [proSt, msgs_len]] at he
                subst he
                go_wp2_with fail
                refine (lives36_spec h8).mono ?_
                rintro e w8 ⟨rfl, h9⟩
                go_wp2_with fail
                go_ret
                exact ⟨rfl, h9.below⟩
end Go.Proofs.Ytnmkdidhilekiaa
