/- ChannelOrder, the walk. -/
import Derived.Test.YtnmkdidhilekiaaOrd2
namespace Go.Proofs.Ytnmkdidhilekiaa
open Go.RowKit PA
set_option maxHeartbeats 4000000 in
set_option maxRecDepth 100000 in
theorem channelOrder_walk (a0 : Int) (a1 : Option Addr) (len1 cap1 : Nat) (z1 : List Int) (w : World) (w0 : (Lit.int .i64 a0).wf = true) (w1 : IsArg w a1 len1 cap1 z1) :
    Calls Try.prog 4 #[.int .i64 a0, .slice a1 len1 cap1] w fun e w' => e = .returned (.bool true) ∧ Below w.heap.size w w' := by
  obtain ⟨b0, b1⟩ := i64_of_wf w0
  clear w0
  have hlen : len1 ≤ 9223372036854775807 := by
    rcases w1 with ⟨-, h, -⟩ | ⟨x, -, h1, h2, -⟩
    · omega
    · unfold maxLen at h2; omega
  have HARG := Lib.hid w1
  clear w1
  have qE : ∀ (w : World) (a : Option Addr) (n c n' c' : Nat), (binOp .eql 23 (.slice a n c) (.slice none n' c')).run Try.prog w = .ok (.bool a.isNone) w := fun w a n c n' c' => Lib.run_eql_slice_nil w _ _ a n c n' c' Try.underlying23
  go_enter Try.func4, Try.ntmps4
  go_wp2_with fail
  refine (ends_spec a0 (Sat.start w) b0 b1).mono ?_
  rintro e w1 ⟨b, P, rfl, h1⟩
  clear b0 b1
  obtain ⟨win, hwin, hw1, hw2⟩ : ∃ win : Nat → Int, (fun k => newEnd (1 + aroundI (if k = 0 then a0 else a0.tdiv 16) 16)) = (fun k => newEnd (win k)) ∧ (∀ k, 1 ≤ win k) ∧ (∀ k, win k ≤ 16) :=
    ⟨fun k => 1 + aroundI (if k = 0 then a0 else a0.tdiv 16) 16, rfl, fun k => by have := aroundI_lt (if k = 0 then a0 else a0.tdiv 16) 16 (by omega); show (1 : Int) ≤ 1 + _; omega, fun k => by have := aroundI_lt (if k = 0 then a0 else a0.tdiv 16) 16 (by omega); show (1 : Int) + _ ≤ 16; omega⟩
  rw [hwin] at h1
  clear hwin
  go_wp2_with fail
  have h2 := (h1.alloc (.cells #[.slice none 0 0, .slice none 0 0] 42)).alloc (.cells #[.int .i64 0, .int .i64 0] 3)
  obtain ⟨o, ho⟩ : ∃ o : OSt, o = ⟨fun k => newEnd (win k), fun _ => [], []⟩ := ⟨_, rfl⟩
  have hI : OInv 0 o := by
    rw [ho]
    refine ⟨fun k hk => ⟨hw1 k, hw2 k, rfl, Int.le_refl _, Int.le_refl _, Int.le_refl _, fun q c hq => (by cases hq), Nat.le_refl _, fun c hc => (by cases hc)⟩, fun x hx => by cases hx⟩
  have h3 : Sat w ((w1.alloc (.cells #[.slice none 0 0, .slice none 0 0] 42)).alloc (.cells #[.int .i64 0, .int .i64 0] 3)) (sep (OrdB b w1.heap.size (w1.alloc (.cells #[.slice none 0 0, .slice none 0 0] 42)).heap.size P (fun _ => none) (fun _ => 0) (fun _ => []) o) (linkA none 0 [] none 0 o.link)) := by
    have h4 := ((((((h2.osl_nil 31 1).rows_nil rBytes 1).osl_nil 31 1).rows_nil rBytes 1).osl_nil 44 3).rows_nil rPkt 3).osl_nil 3 1
    have : sep (OrdB b w1.heap.size (w1.alloc (.cells #[.slice none 0 0, .slice none 0 0] 42)).heap.size P (fun _ => none) (fun _ => 0) (fun _ => []) o) (linkA none 0 [] none 0 o.link) =
      sep (sep (rsl (some ⟨b, 0, none⟩) [ptr (P 0), ptr (P 1)]) (sep (isTwo P fun k => newEnd (win k)) (sep (blk w1.heap.size (.cells #[.slice none 0 0, .slice none 0 0] 42 (0, 0))) (sep (sep (sep (osl 31 1 none 0 0 []) ((rBytes.rows 1).is [] [])) (sep (osl 31 1 none 0 0 []) ((rBytes.rows 1).is [] []))) (blk (w1.alloc (.cells #[.slice none 0 0, .slice none 0 0] 42)).heap.size (.cells #[.int .i64 0, .int .i64 0] 3 (0, 0))))))) (sep (osl 44 3 none 0 0 []) (sep ((rPkt.rows 3).is [] []) (osl 3 1 none 0 0 []))) := by
      subst ho; rfl
    rw [this, ← sep_emp (sep _ _)]
    simpa only [sep_comm, sep_lcomm, sep_assoc] using h4
  generalize hgs : w1.heap.size = gs at h3 ⊢
  rw [World.size_alloc, hgs] at h3
  obtain ⟨gg, hgg⟩ : ∃ gg, gg = gs + 1 := ⟨_, rfl⟩
  rw [← hgg] at h3 ⊢
  generalize ((w1.alloc (.cells #[.slice none 0 0, .slice none 0 0] 42)).alloc (.cells #[.int .i64 0, .int .i64 0] 3)) = w2 at h3 ⊢
  have hol : o.link.length = 0 := by rw [ho]; rfl
  clear hgs hgg h1 h2 ho hw1 hw2
  go_loopw [8, 9, 10] (OrdRel w b gs gg P len1) (fun _ _ i _ => len1 - (intOf i).toNat)
  case atStart => exact ⟨0, by omega, by omega, rfl, o, _, _, _, none, 0, _, none, 0, by rw [hol], by rw [hol], by omega, hI, h3⟩
  case round =>
    clear h3 hI hol
    obtain ⟨i, hi, hi80, rfl, o, A, C, V, al, cl, lc, at', ct, rfl, rfl, hll, hI, hS⟩ := hrel
    by_cases hlt : i < len1 ∧ i < 80
    · obtain ⟨x, n, rfl, carg, n1, n2⟩ := arg_at HARG.out hS i hlt.1
      have g1 : decide ((i : Int) < (len1 : Int)) = true := by simp; omega
      have g2 : decide ((i : Int) < 80) = true := by simp; omega
      have g3 : (i : Int) < (len1 : Int) := by omega
      go_wp2_with fail
      obtain ⟨d1, d2⟩ := tdiv16 n n1 n2 8 (by omega)
      refine (around_spec (n.tdiv 8) 1073741824 _ d1 d2 (by omega) (by omega)).mono ?_
      rintro e w3 ⟨rfl, rfl⟩
      obtain ⟨e1, e2⟩ := aroundI_lt (n.tdiv 8) 1073741824 (by omega)
      obtain ⟨q, hq⟩ : ∃ q : Nat, aroundI (n.tdiv 8) 1073741824 = q := ⟨(aroundI (n.tdiv 8) 1073741824).toNat, by omega⟩
      rw [hq] at e1 e2 ⊢
      have hq2 : q < 1073741824 := by omega
      clear hq e1 e2 d1 d2
      obtain ⟨k, hk⟩ : ∃ k, k = q % 2 := ⟨_, rfl⟩
      have hk2 : k < 2 := by omega
      have hk3 : (k : Int) < 2 := by omega
      have hrem : Int.tmod (q : Int) 2 = (k : Int) := by rw [Int.tmod_eq_emod_of_nonneg (by omega)]; omega
      clear hk
      go_wp2_with fail
      refine (around_spec n 8 _ n1 n2 (by omega) (by omega)).mono ?_
      rintro e w3 ⟨rfl, rfl⟩
      obtain ⟨e1, e2⟩ := aroundI_lt n 8 (by omega)
      obtain ⟨m, hm⟩ : ∃ m : Nat, aroundI n 8 = m := ⟨(aroundI n 8).toNat, by omega⟩
      rw [hm] at e1 e2 ⊢
      have hm2 : m < 8 := by omega
      clear hm e1 e2 carg
      go_upto_block 2 with fail
      clear hrem
      go_cut [8, 9] (fun lv tv wc => OrdCore w b gs gg P (i + 1) lv tv wc)
      case first =>
        have ce : wr.cell? ⟨b, k, none⟩ = some (.pointer (some ⟨P k, 0, none⟩)) := two_cellk (f := fun k => ptr (P k)) ((ordB_open hS k hk2).p4) k hk2
        by_cases hm3 : m < 2
        · have hcase : (((m : Int) == 0) = true) ∨ (((m : Int) == 0) = false ∧ ((m : Int) == 1) = true) := by
            by_cases h : m = 0
            · exact .inl (by simp [h])
            · exact .inr ⟨by simp; omega, by simp; omega⟩
          have hbv : #[Value.int .u8 (i : Int), Value.int .u8 3] = ([UInt8.ofNat i, 3].map bv).toArray := by
            have : i % 256 = i := Nat.mod_eq_of_lt (by omega)
            simp [bv, this]
          have HBV := Lib.hid hbv
          clear hbv
          have ce2 : (wr.alloc (.cells #[.int .u8 (i : Int), .int .u8 3] 5)).cell? ⟨b, k, none⟩ = some (.pointer (some ⟨P k, 0, none⟩)) := by
            rw [World.cell?_alloc_lt wr _ _ (World.block_lt_of_cell? wr _ ce)]; exact ce
          rcases hcase with f0 | ⟨f0, f1⟩
          all_goals
            /-DEV-/
            go_wp2_with fail
            have h6 := ((ordB_open hS k hk2).twoPick k hk2).bytes_of_alloc [UInt8.ofNat i, 3] 5 (0, 0) (show 2 ≤ maxLen by decide)
            rw [← HBV.out] at h6
            obtain ⟨v1, v2, v3, v4, v5, v6, v7, v8, v9⟩ := hI.1 k hk2
            have hwl : (o.S k).wait.length ≤ 80 := by rw [v3, List.length_drop]; omega
            have h7 := h6.dup
            refine (send_ok (P k) _ _ _ h7.p2 (by simp) (by omega)).mono ?_
            rintro e w3 ⟨rfl, h8⟩
            have h9 := h8.p2.p1.twoPut (S := o.S) hk2
            have cs : w3.cell? ⟨gs, k, none⟩ = some (.slice (A k) (o.sent k).length (C k)) := by rw [h9.p4.cell k, rowV_get _ k hk2]; rfl
            have hA := (h9.p2.alloc0 (.cells #[.slice (some ⟨wr.heap.size, 0, none⟩) 2 2] 31))
            have cs2 : (w3.alloc (.cells #[.slice (some ⟨wr.heap.size, 0, none⟩) 2 2] 31)).cell? ⟨gs, k, none⟩ = some (.slice (A k) (o.sent k).length (C k)) := by rw [hA.p4.cell k, rowV_get _ k hk2]; rfl
            have hsl : (o.sent k).length ≤ 80 := by omega
            clear h8 h9 h6 h7 hS ce ce2 v1 v2 v3 v4 v5 v6 v7 v8 v9 hwl
            go_wp2_with (at_builtin; refine wpl_append_osl rfl (.tmp 131) (.tmp 133) 42 rfl 31 1 24 (.slice none 0 0) Try.underlying42 infoBytes rfl rfl hA rfl [.slice (some ⟨wr.heap.size, 0, none⟩) 2 2] rfl (by simp) (by intro b hb; cases hb; exact new_src _ [_] _) (by simp [Value.oneCell']) (by omega) (by unfold maxLen; omega) ?_)
            intro a2 c2 w4 h10
            have cs3 : w4.cell? ⟨gs, k, none⟩ = some (.slice (A k) (o.sent k).length (C k)) := by rw [h10.p4.cell k, rowV_get _ k hk2]; rfl
            have fs : w4.frozen? ⟨gs, k, none⟩ = false := h10.p4.unfrozen k
            clear hA cs cs2
            go_wp2_with fail
            go_meet
            have h11 := h10.p4.setCell k (.slice a2 ((o.sent k).length + 1) c2)
            rw [rowV_set _ k hk2] at h11
            exact ord_send_core hI hll hk2 h11
            /-VED-/
        · have f0 : ((m : Int) == 0) = false := by simp; omega
          have f1 : ((m : Int) == 1) = false := by simp; omega
          by_cases hm4 : m < 4
          · have hcase : (((m : Int) == 2) = true) ∨ (((m : Int) == 2) = false ∧ ((m : Int) == 3) = true) := by
              by_cases h : m = 2
              · exact .inl (by simp [h])
              · exact .inr ⟨by simp; omega, by simp; omega⟩
            obtain ⟨v1, v2, v3, v4, v5, v6, v7, v8, v9⟩ := hI.1 k hk2
            obtain ⟨u1, u2, u3, u4, u5, u6, u7, u8, u9⟩ := hI.1 (1 - k) (by omega)
            rw [show 1 - (1 - k) = k by omega] at u5 u6 u7
            have hwl : (o.S k).wait.length ≤ 80 := by rw [v3, List.length_drop]; omega
            obtain ⟨nn, hnn⟩ : ∃ nn : Nat, (nn : Int) = min ((o.S k).wait.length : Int) (o.S k).win := ⟨(min ((o.S k).wait.length : Int) (o.S k).win).toNat, by omega⟩
            have hbl : ∀ b ∈ (o.S k).wait, b.length ≤ 65536 := by
              intro c hc
              rw [v3] at hc
              have := v9 c (List.mem_of_mem_drop hc)
              omega
            rcases hcase with f2 | ⟨f2, f3⟩
            all_goals
              /-DEV-/
              go_wp2_with fail
              refine (out_pkts (P k) _ ((ordB_open hS k hk2).twoPick k hk2) v1 v2 nn hnn v4 (by omega) hbl).mono ?_
              rintro e w3 ⟨ap, cp, he, hwp, hP⟩
              have hnl : nn ≤ (o.S k).wait.length := by omega
              have hpl := outPkts_length (o.S k) nn hnl
              rw [← hpl] at he hwp hP
              obtain ⟨ps, hps⟩ : ∃ ps, ps = outPkts (o.S k) nn := ⟨_, rfl⟩
              rw [← hps] at he hwp hP hpl
              obtain ⟨L, hL⟩ : ∃ L, L = ps.length := ⟨_, rfl⟩
              have hL16 : L ≤ 16 := by rw [hL, hpl]; unfold outN; split <;> omega
              rw [← hL] at he hwp hP
              subst he
              have HPS := Lib.hid hps
              have HL := Lib.hid hL
              have hP2 := ordB_back k hk2 { o.S k with ow := false } rfl hP.q8
              clear hP hpl hps hL v1 v2 v3 v4 v5 v6 v7 v8 v9 u1 u2 u3 u4 u5 u6 u7 u8 u9 hbl hnn hwl hS ce
              go_wp2_with fail
              go_loopw [8, 9, 15] (LaidRel w b gs gg P A C V o k ps ((rPkt.slice 3).is [.slice ap L cp] ps)) (fun _ _ j _ => L - (intOf j).toNat)
              case atStart => exact ⟨0, al, cl, lc, at', ct, by omega, rfl, rfl, rfl, by simpa using hP2⟩
              case round =>
                clear hP2
                obtain ⟨j, al, cl, lc, at', ct, hj, rfl, rfl, rfl, hS⟩ := hrel
                rw [← HL.out] at hj
                obtain ⟨l, hl⟩ : ∃ l, l = o.link ++ (ps.take j).map fun p => (p, 1 - k) := ⟨_, rfl⟩
                have hll2 : l.length = o.link.length + j := by rw [hl, List.length_append, List.length_map, List.length_take, ← HL.out]; omega
                rw [← hl] at hS
                by_cases hjL : j < L
                · have hbj : decide ((j : Int) < (L : Int)) = true := by simp; omega
                  have hjI : (j : Int) < (L : Int) := by omega
                  obtain ⟨y, hy⟩ : ∃ y, y = 1 - k := ⟨_, rfl⟩
                  have hy2 : y < 2 := by omega
                  have hsub : (1 : Int) - (k : Int) = (y : Int) := by omega
                  rw [← hy] at hl
                  obtain ⟨bp, op, v, rfl, g00, g01, g02, h7⟩ := pkt_get hS.p1 j (by rw [← HL.out]; exact hjL)
                  obtain ⟨pk, hpk⟩ : ∃ pk, pk = ps[j]'(by rw [← HL.out]; exact hjL) := ⟨_, rfl⟩
                  rw [← hpk] at g00 g01 h7
                  have HPK := Lib.hid hpk
                  have HLL := Lib.hid hll2
                  have HLD := Lib.hid hl
                  have HY := Lib.hid hy
                  clear hpk hll2 hl hy
                  obtain ⟨ab, cb, rfl, -, -⟩ := h7.bytes_open
                  simp only [linkA, sep_assoc] at h7
                  rw [HLL.out] at h7
                  have hA := (h7.p3.alloc0 (.cells #[.int .i64 pk.seq, .int .i64 pk.ack, .slice ab pk.b.length cb] 44))
                  have hln : o.link.length + j ≤ 1400 := by omega
                  clear h7 hS
                  go_wp2_with (at_builtin; refine wpl_append_osl rfl (.tmp 150) (.tmp 155) 35 rfl 44 3 40 _ Try.underlying35 infoPacket rfl rfl hA rfl [.int .i64 pk.seq, .int .i64 pk.ack, .slice ab pk.b.length cb] rfl (by simp) (by intro b hb; cases hb; exact new_src _ _ _) (by simp [Value.oneCell']) (by omega) (by unfold maxLen; omega) ?_)
                  intro a2 c2 w4 h8
                  have hB : Sat w (w4.alloc (.cells #[.int .i64 y] 3)) (sep (osl 3 1 at' (o.link.length + j) ct (l.map fun x => .int .i64 x.2)) (sep (osl 44 3 a2 (o.link.length + j + 1) c2 (lc ++ [.int .i64 pk.seq, .int .i64 pk.ack, .slice ab pk.b.length cb])) (sep (rBytes.is [.slice ab pk.b.length cb] pk.b) (sep ((rPkt.rows 3).is lc (l.map (·.1))) (sep (OrdB b gs gg P A C V { o with S := upd o.S k { o.S k with ow := false } }) ((rPkt.slice 3).is [.slice (some ⟨bp, op, none⟩) L cp] ps)))))) := by
                    have := (h8.alloc0 (.cells #[.int .i64 y] 3))
                    simpa only [sep_comm, sep_lcomm, sep_assoc] using this
                  clear hA h8
                  go_wp2_with (at_builtin; refine wpl_append_osl rfl (.tmp 157) (.tmp 160) 22 rfl 3 1 8 (.int .i64 0) Try.underlying22 infoInt rfl rfl hB rfl [.int .i64 y] rfl (by simp) (by intro b hb; cases hb; exact new_src _ [_] _) (by simp [Value.oneCell']) (by omega) (by unfold maxLen; omega) ?_)
                  intro a3 c3 w5 h9
                  clear hB
                  go_wp2_with fail
                  go_roundw
                  case rel =>
                    refine ⟨j + 1, a2, c2, lc ++ [.int .i64 pk.seq, .int .i64 pk.ack, .slice ab pk.b.length cb], a3, c3, by have := HL.out; omega, by go_num, by rw [Nat.add_assoc], by rw [Nat.add_assoc], ?_⟩
                    rw [← HLL.out] at h9
                    have h10 := link_snoc h9.p1
                    have hj2 : j < ps.length := by rw [← HL.out]; exact hjL
                    rw [show o.link ++ (ps.take (j + 1)).map (fun p => (p, 1 - k)) = l ++ [(pk, y)] by
                      rw [List.take_succ_eq_append_getElem hj2, List.map_append, ← List.append_assoc, ← HY.out, ← HLD.out, HPK.out]; rfl]
                    simpa only [sep_comm, sep_lcomm, sep_assoc] using h10
                  case measure => simp [intOf]; omega
                · have hbj : decide ((j : Int) < (L : Int)) = false := by simp; omega
                  go_wp2_with fail
                  go_meet
                  obtain rfl : j = L := by omega
                  have e1 : ps.take j = ps := List.take_of_length_le (by rw [← HL.out]; exact Nat.le_refl _)
                  rw [hl, e1] at hS
                  have h11 := ord_laid_core hI hll hk2 HPS.out hnl (by rw [← HL.out]; exact hL16) hS
                  rw [← HL.out] at h11
                  exact h11
              /-VED-/
          · have f2 : ((m : Int) == 2) = false := by simp; omega
            have f3 : ((m : Int) == 3) = false := by simp; omega
            /-DEV-/
            by_cases hl0 : o.link.length = 0
            · have f4 : ((o.link.length : Int) == 0) = true := by simp [hl0]
              go_wp2_with fail
              exact ⟨⟨i + 1, by omega, by omega, by go_num, o, A, C, V, al, cl, lc, at', ct, rfl, rfl, by omega, hI.up, hS⟩, by simp [intOf]; omega⟩
            · obtain ⟨L, hL⟩ : ∃ L, L = o.link.length := ⟨_, rfl⟩
              have f4 : ((L : Int) == 0) = false := by simp; omega
              have f4' : (L : Int) ≠ 0 := by omega
              obtain ⟨qq, hqq⟩ : ∃ qq, qq = q / 2 := ⟨_, rfl⟩
              have hquo : Int.tdiv (q : Int) 2 = (qq : Int) := by rw [Int.tdiv_eq_ediv_of_nonneg (by omega)]; omega
              obtain ⟨j, hj⟩ : ∃ j, j = qq % L := ⟨_, rfl⟩
              have hjL : j < L := by rw [hj]; exact Nat.mod_lt _ (by omega)
              have hmod : Int.tmod (qq : Int) (L : Int) = (j : Int) := by rw [Int.tmod_eq_emod_of_nonneg (by omega), hj, Int.natCast_emod]
              have hjI : (j : Int) < (L : Int) := by omega
              have hwj : IntKind.i64.wrap (j : Int) = (j : Int) := IntWalk.i64_in _ (by omega)
              have hwq : IntKind.i64.wrap (qq : Int) = (qq : Int) := IntWalk.i64_in _ (by omega)
              rw [← hL] at hll
              have HL := Lib.hid hL
              clear hqq hj
              have hjl : j < o.link.length := by omega
              have hS' : Sat w wr (sep (linkA al cl lc at' ct o.link) (OrdB b gs gg P A C V o)) := by rw [sep_comm]; exact hS
              obtain ⟨g, gt, v, rfl, rfl, ct0, cp0, cp1, cp2, h1⟩ := link_get hS' j hjl
              have hpk := hI.2 _ (List.getElem_mem hjl)
              rcases hx : o.link[j] with ⟨pk, t⟩
              have hmem : (pk, t) ∈ o.link := by rw [← hx]; exact List.getElem_mem hjl
              rw [hx] at ct0 cp0 cp1 hpk h1
              dsimp only at ct0 cp0 cp1 h1
              have ht2 : t < 2 := hpk.1
              have ht3 : (t : Int) < 2 := by omega
              have HX := Lib.hid hx
              have HPK := Lib.hid hpk
              have HMEM := Lib.hid hmem
              clear hx hpk hmem
              have ce : wr.drew.cell? ⟨b, t, none⟩ = some (.pointer (some ⟨P t, 0, none⟩)) := two_cellk (f := fun k => ptr (P k)) ((ordB_open hS.drew t ht2).p4) t ht2
              replace cp0 : wr.drew.cell? ⟨g, j * 3, none⟩ = _ := cp0
              replace cp1 : wr.drew.cell? ⟨g, j * 3 + 1, none⟩ = _ := cp1
              replace cp2 : wr.drew.cell? ⟨g, j * 3 + 2, none⟩ = _ := cp2
              have hS0 : True := trivial
              have h2 : Sat w wr.drew (sep (isEnd (P t) (o.S t)) (sep (rBytes.is [v] pk.b) (sep (isEnd (P (1 - t)) (o.S (1 - t))) (sep (rsl (some ⟨b, 0, none⟩) [ptr (P 0), ptr (P 1)]) (sep (blk gs (.cells (rowV (sentV A C o)) 42 (0, 0))) (sep (two fun k => sentK (A k) (C k) (V k) (o.sent k)) (sep (blk gg (.cells (rowV (gotV o)) 3 (0, 0))) (linkA (some ⟨g, 0, none⟩) cl lc (some ⟨gt, 0, none⟩) ct o.link)))))))) := by
                have := h1.drew
                simp only [OrdB, isTwo_pick P o.S t ht2] at this
                simpa only [sep_comm, sep_lcomm, sep_assoc] using this
              clear h1 hS' hS
              rw [← hL]
              clear hL
              go_wp2_with fail
              refine wp_region_canon rfl (fun _ => True) [(0, .p), (1, .p), (2, .p), (3, .t), (4, .p), (5, .p), (6, .p), (7, .t), (8, .e false), (9, .p)] (by kernel_rfl) ?_
              (repeat (first | (refine C_p (v := ?_) rfl rfl (fun w' => ?_) ?_; rotate_left; (go_simp; with_reducible rfl); simp only [Act.put, List.setIfInBounds_toArray, List.set_cons_zero, List.set_cons_succ]) | (refine C_s (v := ?_) rfl rfl hS0 (fun w' hS => ?_) ?_; rotate_left; ((try dsimp only at hS); go_simp; with_reducible rfl); simp only [Act.put, List.setIfInBounds_toArray, List.set_cons_zero, List.set_cons_succ]) | (refine C_t (v := ?_) rfl rfl ?_ ?_; rotate_left; (go_simp; with_reducible rfl); simp only [Act.put, List.setIfInBounds_toArray, List.set_cons_zero, List.set_cons_succ]) | (refine C_po rfl rfl ?_; simp only [Act.put, List.setIfInBounds_toArray, List.set_cons_zero, List.set_cons_succ]) | (refine C_so rfl rfl hS0 ?_; simp only [Act.put, List.setIfInBounds_toArray, List.set_cons_zero, List.set_cons_succ]) | (refine C_to rfl rfl ?_; simp only [Act.put, List.setIfInBounds_toArray, List.set_cons_zero, List.set_cons_succ])))
              (refine C_e rfl rfl (fun K hK => ?_); go_simp)
              have hT := hI.1 t ht2
              have hU := hI.1 (1 - t) (by omega)
              rw [show 1 - (1 - t) = t by omega] at hU
              have HT := Lib.hid hT
              have HU := Lib.hid hU
              obtain ⟨u1, u2, u3, u4, u5, u6, u7, u8, u9⟩ := hT
              obtain ⟨v1, v2, v3, v4, v5, v6, v7, v8, v9⟩ := hU
              have hheld : ∀ k, (o.S t).held k ≠ none → k ≤ 2000000000 := by
                intro k hk
                obtain ⟨c, hc⟩ := Option.ne_none_iff_exists'.1 hk
                have := (List.getElem?_eq_some_iff.1 (v7 k c hc).2).1
                omega
              have hwl : (o.S t).wait.length ≤ 80 := by rw [u3, List.length_drop]; omega
              refine (in_all (P t) _ _ _ _ _ h2 hheld u4 (by omega) (by omega) (by omega)).mono ?_
              clear u1 u2 u3 u4 u5 u6 u7 u8 u9 v1 v2 v3 v4 v5 v6 v7 v8 v9 hheld hwl h2
              rintro e w4 ⟨ax, cx, outs, s, rfl, hpost, hwx, h8⟩
              obtain ⟨hI2, hdl, houts⟩ := ord_in hI pk t HMEM.out outs s hpost
              have hTT := HT.out
              have hUU := HU.out
              obtain ⟨d, hd⟩ : ∃ d : Nat, (o.S t).dlv = d := ⟨(o.S t).dlv.toNat, by have := hUU.2.2.2.2.1; have := hUU.2.2.2.1; omega⟩
              obtain ⟨X, hX⟩ : ∃ X, X = outs.length := ⟨_, rfl⟩
              have hsd : s.dlv = ((d + X : Nat) : Int) := by rw [hdl, hd, hX]; omega
              rw [hd, Int.toNat_natCast] at houts
              obtain ⟨y, hy⟩ : ∃ y, y = 1 - t := ⟨_, rfl⟩
              have hy2 : y < 2 := by omega
              have hy3 : (y : Int) < 2 := by omega
              have hsub : (1 : Int) - (t : Int) = (y : Int) := by omega
              have hwy : IntKind.i64.wrap (1 - (t : Int)) = (y : Int) := by rw [hsub]; exact IntWalk.i64_in _ (by omega)
              have hwy2 : IntKind.i64.wrap (y : Int) = (y : Int) := IntWalk.i64_in _ (by omega)
              rw [← hy] at houts
              obtain ⟨Y, hY⟩ : ∃ Y, Y = (o.sent y).length := ⟨_, rfl⟩
              have hY80 : Y ≤ 80 := by have := hUU.2.2.2.2.2.2.2.1; rw [← hy] at this; omega
              have hbnd : ∀ r, r < X → d + r < Y := fun r hr => by
                have := (List.getElem?_eq_some_iff.1 (houts r (by omega))).1
                omega
              have hX80 : X ≤ 80 := by
                by_cases h0 : X = 0
                · omega
                · have := hbnd (X - 1) (by omega); omega
              rw [← hX] at h8 hwx ⊢
              have HXX := Lib.hid hX
              have HYY := Lib.hid hY
              have HY := Lib.hid hy
              have HOUTS := Lib.hid houts
              have HD := Lib.hid hd
              have HSD := Lib.hid hsd
              have HI2 := Lib.hid hI2
              have hdr : d ≤ 80 ∨ X = 0 := by
                by_cases h0 : X = 0
                · exact .inr h0
                · have := hbnd 0 (by omega); exact .inl (by omega)
              clear hX hY hy houts hd hsd hI2 hTT hUU HT HU hpost hdl ce ct0 cp0 cp1 cp2
              (refine hK _ _ (fun h => by cases h) ?_; clear hK K; (try simp only [Act.put, List.setIfInBounds_toArray, List.set_cons_zero, List.set_cons_succ]))
              (repeat (first | (refine C_p (v := ?_) rfl rfl (fun w' => ?_) ?_; rotate_left; (go_simp; with_reducible rfl); simp only [Act.put, List.setIfInBounds_toArray, List.set_cons_zero, List.set_cons_succ]) | (refine C_s (v := ?_) rfl rfl hS0 (fun w' hS => ?_) ?_; rotate_left; ((try dsimp only at hS); go_simp; with_reducible rfl); simp only [Act.put, List.setIfInBounds_toArray, List.set_cons_zero, List.set_cons_succ]) | (refine C_t (v := ?_) rfl rfl ?_ ?_; rotate_left; (go_simp; with_reducible rfl); simp only [Act.put, List.setIfInBounds_toArray, List.set_cons_zero, List.set_cons_succ]) | (refine C_po rfl rfl ?_; simp only [Act.put, List.setIfInBounds_toArray, List.set_cons_zero, List.set_cons_succ]) | (refine C_so rfl rfl hS0 ?_; simp only [Act.put, List.setIfInBounds_toArray, List.set_cons_zero, List.set_cons_succ]) | (refine C_to rfl rfl ?_; simp only [Act.put, List.setIfInBounds_toArray, List.set_cons_zero, List.set_cons_succ])))
              refine C_nil ?_
              go_wp2_with fail
              go_loopw [19] (CmpRel w gs gg A C V o t d X outs (.slice ax X cx) (sep (isTwo P (upd o.S t s)) (sep (rsl (some ⟨b, 0, none⟩) [ptr (P 0), ptr (P 1)]) (linkA (some ⟨g, 0, none⟩) cl lc (some ⟨gt, 0, none⟩) ct o.link)))) (fun r _ => X - (intOf r).toNat)
              case atStart =>
                refine ⟨0, by omega, rfl, ?_⟩
                rw [show (fun j => if j = t then .int .i64 ((d + 0 : Nat) : Int) else gotV o j) = gotV o by
                  funext j; split
                  · rename_i e; subst e; unfold gotV; rw [HD.out]; rfl
                  · rfl]
                have h9 := h8.p1.p2.q1.twoPut (S := o.S) ht2
                simpa only [sep_comm, sep_lcomm, sep_assoc] using h9
              case round =>
                clear h8
                obtain ⟨r, hr, rfl, hS⟩ := hrel
                by_cases hrX : r < X
                · have hbr : decide ((r : Int) < (X : Int)) = true := by simp; omega
                  have hrXI : (r : Int) < (X : Int) := by omega
                  have hlt2 := hbnd r hrX
                  go_wp2_with fail
                  have hD := hS.drew
                  have cg : wr.drew.cell? ⟨gg, t, none⟩ = some (.int .i64 ((d + r : Nat) : Int)) := by
                    rw [hD.cell t, rowV_get _ t ht2, if_pos rfl]
                  have cf : wr.drew.frozen? ⟨gg, t, none⟩ = false := hD.unfrozen t
                  have cs : wr.drew.cell? ⟨gs, y, none⟩ = some (.slice (A y) Y (C y)) := by
                    rw [hD.p2.cell y, rowV_get _ y hy2, HYY.out]; rfl
                  obtain ⟨bx, ox, cv, rfl, hcv, hcy, h9⟩ := hD.p1.slice_get r (by rw [← HXX.out]; exact hrX) (by omega)
                  obtain ⟨vy, rfl⟩ : ∃ v, cv = [v] := by match cv, hcv with | [x], _ => exact ⟨x, rfl⟩
                  have gy := hcy 0 _ rfl
                  simp at gy
                  obtain ⟨gl, vz, eA, gz, h10⟩ := sent_get h9.p4 y hy2 (d + r) (by rw [← HYY.out]; exact hlt2)
                  have hsame : outs[r]'(by rw [← HXX.out]; exact hrX) = (o.sent y)[d + r]'(by rw [← HYY.out]; exact hlt2) := by
                    have := HOUTS.out r (by rw [← HXX.out]; exact hrX)
                    rw [List.getElem?_eq_getElem (by rw [← HYY.out]; exact hlt2)] at this
                    exact (Option.some.inj this).symm
                  have h11 : Sat w wr.drew (sep (rBytes.is [vy] (outs[r]'(by rw [← HXX.out]; exact hrX))) (sep (rBytes.is [vz] ((o.sent y)[d + r]'(by rw [← HYY.out]; exact hlt2))) _)) := h10.p2
                  rw [eA] at cs
                  obtain ⟨G, hG⟩ : ∃ G, G = d + r := ⟨_, rfl⟩
                  rw [← hG] at cg gz hlt2
                  have HG := Lib.hid hG
                  have HSM := Lib.hid hsame
                  have H11 := Lib.hid h11
                  have HDD := Lib.hid hD
                  have hGY : (G : Int) < (Y : Int) := by omega
                  have hGw : IntKind.i64.wrap (G : Int) = G := IntWalk.i64_in _ (by omega)
                  have hGe : decide ((Y : Int) ≤ (G : Int)) = false := by simp; omega
                  have hGe2 : decide (Y ≤ G) = false := by simp; omega
                  have hGe3 : (Y ≤ G) = False := by simp; omega
                  clear hG h9 h10 hsame h11 hD hcy eA
                  have hS0 : True := trivial
                  refine wp_region_canon rfl (fun _ => True) [(0, .p), (1, .p), (2, .p), (3, .t), (4, .p), (5, .p), (6, .p), (7, .p), (8, .t), (9, .p), (10, .p), (11, .p), (12, .p), (13, .p), (14, .p), (15, .t), (16, .p), (17, .p), (18, .p), (19, .p), (20, .t), (21, .p), (22, .p), (23, .p), (24, .t), (25, .p), (26, .t), (27, .e false), (28, .p), (29, .p)] (by kernel_rfl) ?_
                  (repeat (first | (refine C_p (v := ?_) rfl rfl (fun w' => ?_) ?_; rotate_left; (go_simp; with_reducible rfl); simp only [Act.put, List.setIfInBounds_toArray, List.set_cons_zero, List.set_cons_succ]) | (refine C_s (v := ?_) rfl rfl hS0 (fun w' hS => ?_) ?_; rotate_left; ((try dsimp only at hS); go_simp; with_reducible rfl); simp only [Act.put, List.setIfInBounds_toArray, List.set_cons_zero, List.set_cons_succ]) | (refine C_t (v := ?_) rfl rfl ?_ ?_; rotate_left; (go_simp; with_reducible rfl); simp only [Act.put, List.setIfInBounds_toArray, List.set_cons_zero, List.set_cons_succ]) | (refine C_po rfl rfl ?_; simp only [Act.put, List.setIfInBounds_toArray, List.set_cons_zero, List.set_cons_succ]) | (refine C_so rfl rfl hS0 ?_; simp only [Act.put, List.setIfInBounds_toArray, List.set_cons_zero, List.set_cons_succ]) | (refine C_to rfl rfl ?_; simp only [Act.put, List.setIfInBounds_toArray, List.set_cons_zero, List.set_cons_succ])))
                  (refine C_e rfl rfl (fun K hK => ?_); go_simp)
                  refine (sameBytes_spec _ _ _ _ H11.out).mono ?_
                  rintro e w5 ⟨rfl, h12⟩
                  rw [decide_eq_true HSM.out]
                  have cg2 : w5.cell? ⟨gg, t, none⟩ = some (.int .i64 (G : Int)) := by
                    rw [h12.p4.cell t, rowV_get _ t ht2, if_pos rfl, HG.out]
                  have cf2 : w5.frozen? ⟨gg, t, none⟩ = false := h12.p4.unfrozen t
                  clear cg cf cs gy gz hS HDD H11
                  (refine hK _ _ (fun h => by cases h) ?_; clear hK K; (try simp only [Act.put, List.setIfInBounds_toArray, List.set_cons_zero, List.set_cons_succ]))
                  (repeat (first | (refine C_p (v := ?_) rfl rfl (fun w' => ?_) ?_; rotate_left; (go_simp; with_reducible rfl); simp only [Act.put, List.setIfInBounds_toArray, List.set_cons_zero, List.set_cons_succ]) | (refine C_s (v := ?_) rfl rfl hS0 (fun w' hS => ?_) ?_; rotate_left; ((try dsimp only at hS); go_simp; with_reducible rfl); simp only [Act.put, List.setIfInBounds_toArray, List.set_cons_zero, List.set_cons_succ]) | (refine C_t (v := ?_) rfl rfl ?_ ?_; rotate_left; (go_simp; with_reducible rfl); simp only [Act.put, List.setIfInBounds_toArray, List.set_cons_zero, List.set_cons_succ]) | (refine C_po rfl rfl ?_; simp only [Act.put, List.setIfInBounds_toArray, List.set_cons_zero, List.set_cons_succ]) | (refine C_so rfl rfl hS0 ?_; simp only [Act.put, List.setIfInBounds_toArray, List.set_cons_zero, List.set_cons_succ]) | (refine C_to rfl rfl ?_; simp only [Act.put, List.setIfInBounds_toArray, List.set_cons_zero, List.set_cons_succ])))
                  refine C_nil ?_
                  go_wp2_with fail
                  go_roundw
                  case rel =>
                    refine ⟨r + 1, by omega, by go_num, ?_⟩
                    have h13 := h12.p4.setCell t (.int .i64 ((d + (r + 1) : Nat) : Int))
                    rw [rowV_set _ t ht2, show (fun j => if j = t then (.int .i64 ((d + (r + 1) : Nat) : Int) : Value) else if j = t then .int .i64 ((d + r : Nat) : Int) else gotV o j) = fun j => if j = t then .int .i64 ((d + (r + 1) : Nat) : Int) else gotV o j by funext j; split <;> rfl] at h13
                    rw [show (G : Int) + 1 = ((d + (r + 1) : Nat) : Int) by have := HG.out; omega]
                    have h14 := h13.p1.drop.p1.drop
                    simpa only [sep_comm, sep_lcomm, sep_assoc] using h14
                  case measure => simp [intOf]; omega
                · have hbr : decide ((r : Int) < (X : Int)) = false := by simp; omega
                  go_wp2_with fail
                  go_meet
                  obtain rfl : r = X := by omega
                  rw [HL.out]
                  exact ord_in_core HI2.out (by rw [← HL.out]; exact hll) HSD.out hS
            /-VED-/
      case rest =>
        clear hS
        obtain ⟨R, hR, hRR⟩ := hcut.rel
        clear hcut
        go_wp2_with fail
        go_loopw [20] (fun jv wr => ∃ j : Nat, j ≤ 2 ∧ jv = .int .i64 j ∧ R wr) (fun j _ => 2 - (intOf j).toNat)
        case atStart => exact ⟨0, by omega, rfl, hR⟩
        case round =>
          clear hR hI hll
          obtain ⟨j, hj, rfl, hC⟩ := hrel
          by_cases hj2 : j < 2
          · have hbj : decide ((j : Int) < 2) = true := by simp; omega
            have hj3 : (j : Int) < 2 := by omega
            obtain ⟨o, A, C, V, al, cl, lc, at', ct, rfl, rfl, hll, hI, hS⟩ := (hRR _).1 hC
            have HRR := Lib.hid hRR
            clear hRR hC
            obtain ⟨y, hy⟩ : ∃ y, y = 1 - j := ⟨_, rfl⟩
            have hy2 : y < 2 := by omega
            have hy3 : (y : Int) < 2 := by omega
            have hsub : (1 : Int) - (j : Int) = (y : Int) := by omega
            have hwy : IntKind.i64.wrap (1 - (j : Int)) = (y : Int) := by rw [hsub]; exact IntWalk.i64_in _ (by omega)
            have hwy2 : IntKind.i64.wrap (y : Int) = (y : Int) := IntWalk.i64_in _ (by omega)
            obtain ⟨u1, u2, u3, u4, u5, u6, u7, u8, u9⟩ := hI.1 j hj2
            rw [← hy] at u5 u6
            obtain ⟨sl, hsl⟩ : ∃ sl, sl = (o.sent j).length := ⟨_, rfl⟩
            obtain ⟨wl, hwl⟩ : ∃ wl, wl = (o.S j).wait.length := ⟨_, rfl⟩
            obtain ⟨dv, hdv⟩ : ∃ dv : Nat, (o.S y).dlv = dv := ⟨(o.S y).dlv.toNat, by omega⟩
            have hwl2 : wl = sl - (o.S j).ack.toNat := by rw [hwl, u3, List.length_drop, hsl]
            rw [hdv] at u5 u6
            rw [← hsl] at u6 u8
            obtain ⟨u, hu⟩ : ∃ u, u = sl - dv := ⟨_, rfl⟩
            have hsub2 : (sl : Int) - (dv : Int) = (u : Int) := by omega
            have hsub3 : IntKind.i64.wrap ((sl : Int) - (dv : Int)) = (u : Int) := by rw [hsub2]; exact IntWalk.i64_in _ (by omega)
            have hsub4 : IntKind.i64.wrap (u : Int) = (u : Int) := IntWalk.i64_in _ (by omega)
            have k1 : decide ((sl : Int) < (wl : Int)) = false := by simp; omega
            have k2 : decide (sl < wl) = false := by simp; omega
            have k3 : decide ((wl : Int) < (u : Int)) = false := by simp; omega
            have k4 : decide (wl < u) = false := by simp; omega
            have k5 : (sl < wl) = False := by simp; omega
            have k6 : (wl < u) = False := by simp; omega
            have HI := Lib.hid hI
            have HSL := Lib.hid hsl
            have HWL := Lib.hid hwl
            have HDV := Lib.hid hdv
            clear u1 u2 u3 u4 u5 u6 u7 u9 hwl2 hu hI hsl hwl hdv hy
            have h1 : Sat w wr.drew (sep (isEnd (P j) (o.S j)) (sep (isEnd (P (1 - j)) (o.S (1 - j))) (sep (rsl (some ⟨b, 0, none⟩) [ptr (P 0), ptr (P 1)]) (sep (blk gs (.cells (rowV (sentV A C o)) 42 (0, 0))) (sep (blk gg (.cells (rowV (gotV o)) 3 (0, 0))) (sep (two fun k => sentK (A k) (C k) (V k) (o.sent k)) (linkA al cl lc at' ct o.link))))))) := by
              have := hS.drew
              simp only [OrdB, isTwo_pick P o.S j hj2] at this
              simpa only [sep_comm, sep_lcomm, sep_assoc] using this
            have hcells : ∀ w', Sat w w' (sep (isEnd (P j) (o.S j)) (sep (isEnd (P (1 - j)) (o.S (1 - j))) (sep (rsl (some ⟨b, 0, none⟩) [ptr (P 0), ptr (P 1)]) (sep (blk gs (.cells (rowV (sentV A C o)) 42 (0, 0))) (sep (blk gg (.cells (rowV (gotV o)) 3 (0, 0))) (sep (two fun k => sentK (A k) (C k) (V k) (o.sent k)) (linkA al cl lc at' ct o.link))))))) →
                w'.cell? ⟨gs, j, none⟩ = some (.slice (A j) sl (C j)) ∧ w'.cell? ⟨gg, y, none⟩ = some (.int .i64 dv) ∧ w'.cell? ⟨b, j, none⟩ = some (.pointer (some ⟨P j, 0, none⟩)) := by
              intro w' h
              refine ⟨?_, ?_, two_cellk (f := fun k => ptr (P k)) h.p2 j hj2⟩
              · rw [h.p3.cell j, rowV_get _ j hj2, HSL.out]; rfl
              · rw [h.p4.cell y, rowV_get _ y hy2, ← HDV.out]; rfl
            have hS0 := hcells _ h1
            clear hS
            go_wp2_with fail
            refine wp_region_canon rfl (fun w' => w'.cell? ⟨gs, j, none⟩ = some (.slice (A j) sl (C j)) ∧ w'.cell? ⟨gg, y, none⟩ = some (.int .i64 dv) ∧ w'.cell? ⟨b, j, none⟩ = some (.pointer (some ⟨P j, 0, none⟩))) [(0, .p), (1, .p), (2, .p), (3, .t), (5, .p), (6, .p), (7, .p), (8, .s), (9, .p), (4, .e true), (10, .p), (11, .p), (12, .p), (13, .p), (14, .p), (15, .t), (17, .p), (18, .p), (19, .p), (20, .s), (21, .p), (22, .p), (23, .p), (24, .p), (25, .p), (26, .s), (27, .p), (16, .e true), (28, .p), (29, .p)] (by kernel_rfl) ?_
            (repeat (first | (refine C_p (v := ?_) rfl rfl (fun w' => ?_) ?_; rotate_left; (go_simp; with_reducible rfl); simp only [Act.put, List.setIfInBounds_toArray, List.set_cons_zero, List.set_cons_succ]) | (refine C_s (v := ?_) rfl rfl hS0 (fun w' hS => ?_) ?_; rotate_left; ((try dsimp only at hS); go_simp; with_reducible rfl); simp only [Act.put, List.setIfInBounds_toArray, List.set_cons_zero, List.set_cons_succ]) | (refine C_t (v := ?_) rfl rfl ?_ ?_; rotate_left; (go_simp; with_reducible rfl); simp only [Act.put, List.setIfInBounds_toArray, List.set_cons_zero, List.set_cons_succ]) | (refine C_po rfl rfl ?_; simp only [Act.put, List.setIfInBounds_toArray, List.set_cons_zero, List.set_cons_succ]) | (refine C_so rfl rfl hS0 ?_; simp only [Act.put, List.setIfInBounds_toArray, List.set_cons_zero, List.set_cons_succ]) | (refine C_to rfl rfl ?_; simp only [Act.put, List.setIfInBounds_toArray, List.set_cons_zero, List.set_cons_succ])))
            (refine C_e rfl rfl (fun K hK => ?_); go_simp)
            refine (waiting_spec (P j) _ h1).mono ?_
            rintro e w4 ⟨rfl, h2⟩
            clear hS0 h1
            have hS0 := hcells _ h2
            rw [← HWL.out]
            (refine hK _ _ (fun _ => hS0) ?_; clear hK K; (try simp only [Act.put, List.setIfInBounds_toArray, List.set_cons_zero, List.set_cons_succ]))
            (repeat (first | (refine C_p (v := ?_) rfl rfl (fun w' => ?_) ?_; rotate_left; (go_simp; with_reducible rfl); simp only [Act.put, List.setIfInBounds_toArray, List.set_cons_zero, List.set_cons_succ]) | (refine C_s (v := ?_) rfl rfl hS0 (fun w' hS => ?_) ?_; rotate_left; ((try dsimp only at hS); go_simp; with_reducible rfl); simp only [Act.put, List.setIfInBounds_toArray, List.set_cons_zero, List.set_cons_succ]) | (refine C_t (v := ?_) rfl rfl ?_ ?_; rotate_left; (go_simp; with_reducible rfl); simp only [Act.put, List.setIfInBounds_toArray, List.set_cons_zero, List.set_cons_succ]) | (refine C_po rfl rfl ?_; simp only [Act.put, List.setIfInBounds_toArray, List.set_cons_zero, List.set_cons_succ]) | (refine C_so rfl rfl hS0 ?_; simp only [Act.put, List.setIfInBounds_toArray, List.set_cons_zero, List.set_cons_succ]) | (refine C_to rfl rfl ?_; simp only [Act.put, List.setIfInBounds_toArray, List.set_cons_zero, List.set_cons_succ])))
            (refine C_e rfl rfl (fun K hK => ?_); go_simp)
            refine (waiting_spec (P j) _ h2).mono ?_
            rintro e w5 ⟨rfl, h3⟩
            clear hS0 h2
            have hS0 := hcells _ h3
            rw [← HWL.out]
            (refine hK _ _ (fun _ => hS0) ?_; clear hK K; (try simp only [Act.put, List.setIfInBounds_toArray, List.set_cons_zero, List.set_cons_succ]))
            (repeat (first | (refine C_p (v := ?_) rfl rfl (fun w' => ?_) ?_; rotate_left; (go_simp; with_reducible rfl); simp only [Act.put, List.setIfInBounds_toArray, List.set_cons_zero, List.set_cons_succ]) | (refine C_s (v := ?_) rfl rfl hS0 (fun w' hS => ?_) ?_; rotate_left; ((try dsimp only at hS); go_simp; with_reducible rfl); simp only [Act.put, List.setIfInBounds_toArray, List.set_cons_zero, List.set_cons_succ]) | (refine C_t (v := ?_) rfl rfl ?_ ?_; rotate_left; (go_simp; with_reducible rfl); simp only [Act.put, List.setIfInBounds_toArray, List.set_cons_zero, List.set_cons_succ]) | (refine C_po rfl rfl ?_; simp only [Act.put, List.setIfInBounds_toArray, List.set_cons_zero, List.set_cons_succ]) | (refine C_so rfl rfl hS0 ?_; simp only [Act.put, List.setIfInBounds_toArray, List.set_cons_zero, List.set_cons_succ]) | (refine C_to rfl rfl ?_; simp only [Act.put, List.setIfInBounds_toArray, List.set_cons_zero, List.set_cons_succ])))
            refine C_nil ?_
            clear hS0 hcells
            go_wp2_with fail
            go_roundw
            case rel =>
              refine ⟨j + 1, by omega, by go_num, (HRR.out _).2 ⟨o, A, C, V, al, cl, lc, at', ct, rfl, rfl, hll, HI.out, ?_⟩⟩
              simp only [OrdB, isTwo_pick P o.S j hj2]
              simpa only [sep_comm, sep_lcomm, sep_assoc] using h3
            case measure => simp [intOf]; omega
          · have hbj : decide ((j : Int) < 2) = false := by simp; omega
            go_wp2_with fail
            go_roundw
            case rel => exact ⟨i + 1, by omega, by omega, by go_num, (hRR _).1 hC⟩
            case measure => simp [intOf]; omega
    · by_cases h5 : i < len1
      · have g1 : decide ((i : Int) < (len1 : Int)) = true := by simp; omega
        have g2 : decide ((i : Int) < 80) = false := by simp; omega
        go_wp2_with fail
        refine (lives36_spec hS).mono ?_
        rintro e w3 ⟨rfl, h4⟩
        go_wp2_with fail
        go_ret
        exact ⟨rfl, h4.below⟩
      · have g1 : decide ((i : Int) < (len1 : Int)) = false := by simp; omega
        go_wp2_with fail
        refine (lives36_spec hS).mono ?_
        rintro e w3 ⟨rfl, h4⟩
        go_wp2_with fail
        go_ret
        exact ⟨rfl, h4.below⟩
end Go.Proofs.Ytnmkdidhilekiaa
