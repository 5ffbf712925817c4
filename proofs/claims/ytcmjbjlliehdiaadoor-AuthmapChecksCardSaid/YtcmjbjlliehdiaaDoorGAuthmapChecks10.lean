/- Package authmap: put. -/
import Derived.Test.YtcmjbjlliehdiaaDoorGAuthmapChecks9
import Derived.Test.YtcmjbjlliehdiaaDoorGAuthmapChecks7
import Derived.Lib.AppendStr
namespace Go.Proofs.YtcmjbjlliehdiaaDoor
open Go.RowKit PA
/-- The package's variable 'whole' reads as it is laid. -/
def WholeOK (W : World) : Prop := W.cell? ⟨0, 0, none⟩ = some (.int .i64 12) ∧ W.cell? ⟨0, 1, none⟩ = some (.int .i64 0)
theorem base_cell {W w : World} {A : Assn} (h : Sat W w A) {b i : Nat} {v : Value} (hc : W.cell? ⟨b, i, none⟩ = some v) : w.cell? ⟨b, i, none⟩ = some v := by
  obtain ⟨-, -, -, I, m, h4, h5, -, -⟩ := h
  have hh : ∀ o, W.heap[b]? = some o → w.heap[b]? = some o := fun o ho => h5 _ _ (h4 _ _ ho)
  cases ho : W.heap[b]? with
  | none => simp [World.cell?, ho] at hc
  | some o => simp only [World.cell?, ho, hh o ho] at hc ⊢; exact hc
theorem WholeOK.now {W w : World} {A : Assn} (hw : WholeOK W) (h : Sat W w A) : WholeOK w := ⟨base_cell h hw.1, base_cell h hw.2⟩
def lvOf (bv : Value) (w : World) : Nat := match bv with | .pointer (some a) => (match w.cell? a with | some (.int _ n) => n.toNat | _ => 0) | _ => 0
theorem lvOf_at {w : World} {g : Nat} {l : Nat} (h : w.cell? ⟨g, 0, none⟩ = some (.int .i64 (l : Nat))) : lvOf (.pointer (some ⟨g, 0, none⟩)) w = l := by
  simp only [lvOf, h, Int.toNat_natCast]
theorem inT_at {k : Int} (h0 : 0 ≤ k) (h1 : k ≤ 4095) {l : Nat} (hl : l ≤ 12) : inT l (atB k l) := by
  have : l = 0 ∨ l = 1 ∨ l = 2 ∨ l = 3 ∨ l = 4 ∨ l = 5 ∨ l = 6 ∨ l = 7 ∨ l = 8 ∨ l = 9 ∨ l = 10 ∨ l = 11 ∨ l = 12 := by omega
  rcases this with rfl | rfl | rfl | rfl | rfl | rfl | rfl | rfl | rfl | rfl | rfl | rfl | rfl <;> (unfold inT atB; simp; omega)
set_option maxRecDepth 100000 in
set_option maxHeartbeats 16000000 in
theorem aput_spec {W w : World} {A : Assn} (hw : WholeOK W) (p b1 b2 n2 : Nat) (M : KVs) (k : Int) (v : Option (List UInt8)) (h0 : 0 ≤ k) (h1 : k ≤ 4095)
    (h : Sat W w (sep (blk p (.cells (amC b1 b2) 92 (0, 0))) (sep (gmap bkv b2 (hmF M) n2) A))) :
    Calls Tryd.prog 49 #[.pointer (some ⟨p, 0, none⟩), .int .i64 k, sumV (hbN (fset M k v) 0 k)] w fun e w' => e = .returned (.tuple #[]) ∧ ∃ n2', Sat W w' (sep (blk p (.cells (amC b1 b2) 92 (0, 0))) (sep (gmap bkv b2 (hmF (fset M k v)) n2') A)) := by
  obtain ⟨M', hM'⟩ : ∃ M', M' = fset M k v := ⟨_, rfl⟩
  rw [← hM']
  obtain ⟨o0, ho0⟩ : ∃ o0, o0 = hbN M' 0 k := ⟨_, rfl⟩
  rw [← ho0]
  obtain ⟨x, hx⟩ : ∃ x, x = w.heap.size := ⟨_, rfl⟩
  obtain ⟨hh, hhh⟩ : ∃ hh : Nat, hh = o0.getD 0 := ⟨_, rfl⟩
  obtain ⟨sm, hsm⟩ : ∃ sm, sm = o0.isSome := ⟨_, rfl⟩
  have es : sumV o0 = .agg #[.int .u64 (hh : Int), .bool sm] := by rw [hhh, hsm]; rfl
  rw [es]
  obtain ⟨w3, hw3⟩ : ∃ w3, w3 = w.alloc (.cells #[.int .u64 (hh : Int), .bool sm] 96) := ⟨_, rfl⟩
  have h3 : Sat W w3 (sep (blk x (.cells #[.int .u64 (hh : Int), .bool sm] 96 (0, 0))) (sep (blk p (.cells (amC b1 b2) 92 (0, 0))) (sep (gmap bkv b2 (hmF M) n2) A))) := by
    rw [hw3, hx]; exact h.alloc _
  have h4 := h3.alloc (.cells #[.int .i64 0, .int .i64 k] 106)
  have HW := Lib.hid (And.intro hx hw3)
  have HO := Lib.hid (And.intro hhh (And.intro hsm (And.intro ho0 hM')))
  have H4 := Lib.hid h4
  clear h h3 h4 hx hw3 hhh hsm es ho0 hM'
  have hwf := Lib.hid hw
  clear hw
  go_enter Tryd.func49, Tryd.ntmps49
  go_upto_region 1 with (fail)
  rw [← HW.out.1, ← HW.out.2]
  go_wp2_with fail
  go_loopw [6] (fun bv wr => ∃ (lv g n3 : Nat) (o : Option Nat), lv ≤ 12 ∧ bv = .pointer (some ⟨g, 0, none⟩) ∧ Hid (lv = 0 → o = hbN M' 0 k) ∧ Sat W wr (sep (blk g (.cells #[.int .i64 (lv : Nat), .int .i64 (atB k lv)] 106 (0, 0))) (sep (blk x (.cells #[.int .u64 ((o.getD 0 : Nat) : Int), .bool o.isSome] 96 (0, 0))) (sep (blk p (.cells (amC b1 b2) 92 (0, 0))) (sep (gmap bkv b2 (hmP M M' lv) n3) A))))) (fun bv wr => 12 - lvOf bv wr)
  case atStart =>
    refine ⟨0, w3.heap.size, n2, o0, by omega, rfl, Lib.hid fun _ => HO.out.2.2.1, ?_⟩
    rw [atB_zero, hmP_zero, ← HO.out.1, ← HO.out.2.1]
    exact H4.out
  case round =>
    obtain ⟨lv, g, n3, o, hl, rfl, hob, hS⟩ := hrel
    obtain ⟨n, hn⟩ : ∃ n, n = atB k lv := ⟨_, rfl⟩
    rw [← hn] at hS
    have HN := Lib.hid hn
    clear H4 hn
    have hT := inT_at h0 h1 hl
    rw [← HN.out] at hT
    have hTb := inT_bounds hT
    have hn0 : 0 ≤ n := hTb.2.1
    have hn1 : n ≤ 4095 := hTb.2.2.1
    have HT := Lib.hid hT
    clear hT hTb
    have HS := Lib.hid hS
    have c0 : wr.cell? ⟨g, 0, none⟩ = some (.int .i64 (lv : Nat)) := hS.cell 0
    have hlv0 := lvOf_at c0
    clear hS
    go_upto_if 20 with (fail)
    go_cut [] (fun wx => Sat W wx (sep (blk g (.cells #[.int .i64 (lv : Nat), .int .i64 n] 106 (0, 0))) (sep (blk x (.cells #[.int .u64 (((hbN M' lv n).getD 0 : Nat) : Int), .bool (hbN M' lv n).isSome] 96 (0, 0))) (sep (blk p (.cells (amC b1 b2) 92 (0, 0))) (sep (gmap bkv b2 (hmP M M' lv) n3) A)))))
    case first =>
     as_aux_lemma =>
      /-DEV1-/
      cases lv with
      | zero =>
        go_wp2_with fail
        go_meet
        have e1 := hob.out (by trivial)
        have e2 : n = k := by rw [HN.out, atB_zero]
        rw [e2, ← e1, ← e2]
        exact HS.out
      | succ m =>
        have c1 : wr.cell? ⟨g, 1, none⟩ = some (.int .i64 n) := HS.out.cell 1
        have hm0 : (0 : Int) < (m : Int) + 1 := by omega
        have hha := ahalves_spec m n HT.out HS.out
        have HHA := Lib.hid hha
        clear hha
        go_wp2_with fail
        refine HHA.out.mono ?_
        rintro e w1 ⟨rfl, h5⟩
        have h5' := h5
        unfold bkv
        clear HHA
        go_upto_region 5 with (fail)
        have HS1 := Lib.hid (And.intro hlv0 (And.intro c0 c1))
        clear HS hlv0 c0 c1 h5'
        have h6 := (h5.alloc (.cells #[.int .i64 (m : Nat), .int .i64 (2 * n)] 106)).alloc (.cells #[.int .i64 (m : Nat), .int .i64 (2 * n + 1)] 106)
        rw [World.size_alloc] at h6
        obtain ⟨y, hy⟩ : ∃ y, y = w1.heap.size := ⟨_, rfl⟩
        obtain ⟨w2, hw2⟩ : ∃ w2, w2 = ((w1.alloc (.cells #[.int .i64 (m : Nat), .int .i64 (2 * n)] 106)).alloc (.cells #[.int .i64 (m : Nat), .int .i64 (2 * n + 1)] 106)) := ⟨_, rfl⟩
        rw [← hw2, ← hy] at h6
        rw [← hw2, ← hy]
        have h7 := h6.drew
        obtain ⟨wd, hwd⟩ : ∃ wd, wd = w2.drew := ⟨_, rfl⟩
        refine wp_region_canon rfl (fun w' => w'.cell? ⟨y + 1, 0, none⟩ = some (.int .i64 (m : Nat)) ∧ w'.cell? ⟨y + 1, 1, none⟩ = some (.int .i64 (2 * n + 1))) [(0, .p), (1, .t), (3, .p), (4, .s), (2, .e true), (5, .e false), (6, .e false), (7, .e false)] (by kernel_rfl) ?_
        rw [← hwd] at h7 ⊢
        clear hwd h5 h6 hy hw2
        have a0 : wd.cell? ⟨y, 0, none⟩ = some (.int .i64 (m : Nat)) := h7.p1.cell 0
        have a1 : wd.cell? ⟨y, 1, none⟩ = some (.int .i64 (2 * n)) := h7.p1.cell 1
        have hS0 : wd.cell? ⟨y + 1, 0, none⟩ = some (.int .i64 (m : Nat)) ∧ wd.cell? ⟨y + 1, 1, none⟩ = some (.int .i64 (2 * n + 1)) := ⟨h7.cell 0, h7.cell 1⟩
        have hof1 := aof_spec p b1 b2 n3 (hmP M M' (m + 1)) m (2 * n) (hbN M' m (2 * n)) (by rw [hmP_at _ _ _ _ _ (by omega), if_pos (by omega)]) (show Sat W wd (sep (blk p (.cells (amC b1 b2) 92 (0, 0))) (sep (gmap bkv b2 (hmP M M' (m + 1)) n3) (sep (blk (y + 1) (.cells #[.int .i64 (m : Nat), .int .i64 (2 * n + 1)] 106 (0, 0))) (sep (blk g (.cells #[.int .i64 ((m + 1 : Nat) : Int), .int .i64 n] 106 (0, 0))) (sep (blk x (.cells #[.int .u64 ((o.getD 0 : Nat) : Int), .bool o.isSome] 96 (0, 0))) A))))) by
          have := h7.p1.drop
          simpa only [sep_comm, sep_lcomm, sep_assoc] using this)
        have HOF1 := Lib.hid hof1
        clear hof1 h7
        (repeat ((first | (refine C_p (v := ?_) rfl rfl (fun w' => ?_) ?_; rotate_left; (go_simp; with_reducible rfl)) | (refine C_s (v := ?_) rfl rfl hS0 (fun w' hS => ?_) ?_; rotate_left; ((try dsimp only at hS); go_simp; with_reducible rfl)) | (refine C_t (v := ?_) rfl rfl ?_ ?_; rotate_left; (go_simp; with_reducible rfl)) | (refine C_po rfl rfl ?_) | (refine C_so rfl rfl hS0 ?_) | (refine C_to rfl rfl ?_)); simp only [Act.put, List.setIfInBounds_toArray, List.set_cons_zero, List.set_cons_succ]))
        (refine C_e rfl rfl (fun K hK => ?_); go_simp)
        refine HOF1.out.mono ?_
        rintro e w4 ⟨rfl, h8⟩
        clear HOF1 a0 a1 hS0
        have hS0 : w4.cell? ⟨y + 1, 0, none⟩ = some (.int .i64 (m : Nat)) ∧ w4.cell? ⟨y + 1, 1, none⟩ = some (.int .i64 (2 * n + 1)) := ⟨h8.p2.cell 0, h8.p2.cell 1⟩
        have hof2 := aof_spec p b1 b2 n3 (hmP M M' (m + 1)) m (2 * n + 1) (hbN M' m (2 * n + 1)) (by rw [hmP_at _ _ _ _ _ (by omega), if_pos (by omega)]) h8
        have HOF2 := Lib.hid hof2
        clear hof2 h8
        (refine hK _ _ (fun _ => hS0) ?_; clear hK K; (try simp only [Act.put, List.setIfInBounds_toArray, List.set_cons_zero, List.set_cons_succ]))
        (repeat ((first | (refine C_p (v := ?_) rfl rfl (fun w' => ?_) ?_; rotate_left; (go_simp; with_reducible rfl)) | (refine C_s (v := ?_) rfl rfl hS0 (fun w' hS => ?_) ?_; rotate_left; ((try dsimp only at hS); go_simp; with_reducible rfl)) | (refine C_t (v := ?_) rfl rfl ?_ ?_; rotate_left; (go_simp; with_reducible rfl)) | (refine C_po rfl rfl ?_) | (refine C_so rfl rfl hS0 ?_) | (refine C_to rfl rfl ?_)); simp only [Act.put, List.setIfInBounds_toArray, List.set_cons_zero, List.set_cons_succ]))
        (refine C_e rfl rfl (fun K hK => ?_); go_simp)
        refine HOF2.out.mono ?_
        rintro e w5 ⟨rfl, h9⟩
        have hj := ajoin_spec (hbN M' m (2 * n)) (hbN M' m (2 * n + 1)) h9
        obtain ⟨hq, hhq⟩ : ∃ hq : Nat, hq = (hbN M' (m + 1) n).getD 0 := ⟨_, rfl⟩
        obtain ⟨sq, hsq⟩ : ∃ sq, sq = (hbN M' (m + 1) n).isSome := ⟨_, rfl⟩
        have ej : sumV (joinN (hbN M' m (2 * n)) (hbN M' m (2 * n + 1))) = .agg #[.int .u64 (hq : Int), .bool sq] := by rw [hhq, hsq]; rfl
        rw [ej] at hj
        have HHQ := Lib.hid (And.intro hhq hsq)
        have HJ := Lib.hid hj
        clear hj h9 HOF2 hS0 hhq hsq ej
        (refine hK _ _ (fun h => by cases h) ?_; clear hK K; (try simp only [Act.put, List.setIfInBounds_toArray, List.set_cons_zero, List.set_cons_succ]))
        (repeat ((first | (refine C_p (v := ?_) rfl rfl (fun w' => ?_) ?_; rotate_left; (go_simp; with_reducible rfl)) | (refine C_s (v := ?_) rfl rfl hS0 (fun w' hS => ?_) ?_; rotate_left; ((try dsimp only at hS); go_simp; with_reducible rfl)) | (refine C_t (v := ?_) rfl rfl ?_ ?_; rotate_left; (go_simp; with_reducible rfl)) | (refine C_po rfl rfl ?_) | (refine C_so rfl rfl hS0 ?_) | (refine C_to rfl rfl ?_)); simp only [Act.put, List.setIfInBounds_toArray, List.set_cons_zero, List.set_cons_succ]))
        (refine C_e rfl rfl (fun K hK => ?_); go_simp)
        refine HJ.out.mono ?_
        rintro e w6 ⟨rfl, h10⟩
        clear HJ
        have ha : Sat W w6 (sep (blk x (.cells #[.int .u64 ((o.getD 0 : Nat) : Int), .bool o.isSome] 96 (0, 0))) (sep (blk g (.cells #[.int .i64 ((m + 1 : Nat) : Int), .int .i64 n] 106 (0, 0))) (sep (blk p (.cells (amC b1 b2) 92 (0, 0))) (sep (gmap bkv b2 (hmP M M' (m + 1)) n3) A)))) := by
          have := (show Sat W w6 (sep (blk (y + 1) (.cells #[.int .i64 (m : Nat), .int .i64 (2 * n + 1)] 106 (0, 0))) _) from h10.p2).drop
          simpa only [sep_comm, sep_lcomm, sep_assoc] using this
        have s0 : w6.cell? ⟨x, 0, none⟩ = some (.int .u64 ((o.getD 0 : Nat) : Int)) := ha.cell 0
        have s1 : w6.cell? ⟨x, 1, none⟩ = some (.bool o.isSome) := ha.cell 1
        have v0 : w6.frozen? ⟨x, 0, none⟩ = false := ha.unfrozen 0
        have v1 : w6.frozen? ⟨x, 1, none⟩ = false := ha.unfrozen 1
        have hb := (ha.setCell 0 (.int .u64 (hq : Int))).setCell 1 (.bool sq)
        have HB := Lib.hid hb
        clear ha h10 hb
        (refine hK _ _ (fun h => by cases h) ?_; clear hK K; (try simp only [Act.put, List.setIfInBounds_toArray, List.set_cons_zero, List.set_cons_succ]))
        (repeat ((first | (refine C_p (v := ?_) rfl rfl (fun w' => ?_) ?_; rotate_left; (go_simp; with_reducible rfl)) | (refine C_s (v := ?_) rfl rfl hS0 (fun w' hS => ?_) ?_; rotate_left; ((try dsimp only at hS); go_simp; with_reducible rfl)) | (refine C_t (v := ?_) rfl rfl ?_ ?_; rotate_left; (go_simp; with_reducible rfl)) | (refine C_po rfl rfl ?_) | (refine C_so rfl rfl hS0 ?_) | (refine C_to rfl rfl ?_)); simp only [Act.put, List.setIfInBounds_toArray, List.set_cons_zero, List.set_cons_succ]))
        (refine C_e rfl rfl (fun K hK => ?_); go_simp)
        (refine hK _ _ (fun h => by cases h) ?_; clear hK K; (try simp only [Act.put, List.setIfInBounds_toArray, List.set_cons_zero, List.set_cons_succ]))
        refine C_nil ?_
        go_wp2_with fail
        go_meet
        rw [← HHQ.out.1, ← HHQ.out.2]
        exact HB.out.p1
      /-VED1-/
    case rest =>
      have HLV := Lib.hid hlv0
      have H6 := Lib.hid hcut
      clear HS c0 hlv0
      obtain ⟨hq, hhq⟩ : ∃ hq : Nat, hq = (hbN M' lv n).getD 0 := ⟨_, rfl⟩
      obtain ⟨sq, hsq⟩ : ∃ sq, sq = (hbN M' lv n).isSome := ⟨_, rfl⟩
      rw [← hhq, ← hsq] at hcut
      have HQ := Lib.hid (And.intro hhq hsq)
      have c0 : wc.cell? ⟨g, 0, none⟩ = some (.int .i64 (lv : Nat)) := hcut.cell 0
      have c1 : wc.cell? ⟨g, 1, none⟩ = some (.int .i64 n) := hcut.cell 1
      have c2 : wc.cell? ⟨x, 1, none⟩ = some (.bool sq) := hcut.p1.cell 1
      have c3 : wc.cell? ⟨x, 0, none⟩ = some (.int .u64 (hq : Int)) := hcut.p1.cell 0
      have c4 : wc.cell? ⟨p, 1, none⟩ = some (.map (some b2)) := hcut.p2.cell 1
      have hstep := hmP_step M k v lv hl
      rw [← HO.out.2.2.2, ← HN.out] at hstep
      have HC := Lib.hid hcut
      have HST := Lib.hid hstep
      clear hcut hhq hsq hstep H6
      go_upto_if 34 with (fail)
      go_cut [] (fun wx => ∃ n4, Sat W wx (sep (blk g (.cells #[.int .i64 (lv : Nat), .int .i64 n] 106 (0, 0))) (sep (blk x (.cells #[.int .u64 (hq : Int), .bool sq] 96 (0, 0))) (sep (blk p (.cells (amC b1 b2) 92 (0, 0))) (sep (gmap bkv b2 (hmP M M' (lv + 1)) n4) A)))))
      case first =>
       as_aux_lemma =>
        /-DEV2-/
        obtain ⟨wd, hwd⟩ : ∃ wd, wd = wc.drew := ⟨_, rfl⟩
        have hd : Sat W wd (sep (gmap bkv b2 (hmP M M' lv) n3) (sep (blk g (.cells #[.int .i64 (lv : Nat), .int .i64 n] 106 (0, 0))) (sep (blk x (.cells #[.int .u64 (hq : Int), .bool sq] 96 (0, 0))) (sep (blk p (.cells (amC b1 b2) 92 (0, 0))) A)))) := by
          have := HC.out.drew
          rw [← hwd] at this
          simpa only [sep_comm, sep_lcomm, sep_assoc] using this
        cases sq with
        | true =>
          have eo : Option.map hv (hbN M' lv n) = some (.int .u64 (hq : Int)) := by
            rw [HQ.out.1]
            have := HQ.out.2
            cases hx : hbN M' lv n with
            | none => rw [hx] at this; cases this
            | some z => rfl
          obtain ⟨w', hrun, n4, hS'⟩ := run_update_gmap (P := Tryd.prog) (T := 90) Tryd.underlying90 blk_key hd (lv, n) (.int .u64 (hq : Int))
          have hst := HST.out
          rw [eo] at hst
          rw [hst] at hS'
          have hrun2 : (Instr.mapUpdate 90 (.map (some b2)) (.agg #[.int .i64 (lv : Nat), .int .i64 n]) (.int .u64 (hq : Int))).run Tryd.prog wd = .ok () w' := hrun
          have HS' := Lib.hid hS'
          have d0 : wd.cell? ⟨g, 0, none⟩ = some (.int .i64 (lv : Nat)) := hd.p1.cell 0
          have d1 : wd.cell? ⟨g, 1, none⟩ = some (.int .i64 n) := hd.p1.cell 1
          have d3 : wd.cell? ⟨x, 0, none⟩ = some (.int .u64 (hq : Int)) := hd.p2.cell 0
          have d4 : wd.cell? ⟨p, 1, none⟩ = some (.map (some b2)) := hd.p3.cell 1
          clear hd hS' hrun hst eo
          go_wp2_with fail
          refine wp_region_canon rfl (fun _ => True) [(0, .p), (1, .p), (2, .p), (3, .t), (4, .t), (5, .p), (6, .t), (7, .e false)] (by kernel_rfl) ?_
          rw [← hwd]
          clear hwd c0 c1 c2 c3 c4
          have hS0 : True := trivial
          (repeat ((first | (refine C_p (v := ?_) rfl rfl (fun w' => ?_) ?_; rotate_left; (go_simp; with_reducible rfl)) | (refine C_s (v := ?_) rfl rfl hS0 (fun w' hS => ?_) ?_; rotate_left; ((try dsimp only at hS); go_simp; with_reducible rfl)) | (refine C_t (v := ?_) rfl rfl ?_ ?_; rotate_left; (go_simp; with_reducible rfl)) | (refine C_po rfl rfl ?_) | (refine C_so rfl rfl hS0 ?_) | (refine C_to rfl rfl ?_)); simp only [Act.put, List.setIfInBounds_toArray, List.set_cons_zero, List.set_cons_succ]))
          (refine C_e rfl rfl (fun K hK => ?_); go_simp)
          (refine hK _ _ (fun h => by cases h) ?_; clear hK K; (try simp only [Act.put, List.setIfInBounds_toArray, List.set_cons_zero, List.set_cons_succ]))
          refine C_nil ?_
          go_wp2_with fail
          go_meet
          exact ⟨n4, by have := HS'.out; simpa only [sep_comm, sep_lcomm, sep_assoc] using this⟩
        | false =>
          have eo : Option.map hv (hbN M' lv n) = none := by
            have := HQ.out.2
            cases hx : hbN M' lv n with
            | none => rfl
            | some z => rw [hx] at this; cases this
          obtain ⟨w', hrun, n4, hS'⟩ := run_delete_gmap (P := Tryd.prog) (T := 90) (ty := 0) (u := 106) Tryd.underlying90 blk_key hd (lv, n)
          have hst := HST.out
          rw [eo] at hst
          rw [hst] at hS'
          have hrun2 : (Builtin.delete_ #[90, 106] 0 #[.map (some b2), .agg #[.int .i64 (lv : Nat), .int .i64 n]]).run Tryd.prog wd = .ok (.tuple #[]) w' := hrun
          have HS' := Lib.hid hS'
          have d0 : wd.cell? ⟨g, 0, none⟩ = some (.int .i64 (lv : Nat)) := hd.p1.cell 0
          have d1 : wd.cell? ⟨g, 1, none⟩ = some (.int .i64 n) := hd.p1.cell 1
          have d4 : wd.cell? ⟨p, 1, none⟩ = some (.map (some b2)) := hd.p3.cell 1
          clear hd hS' hrun hst eo
          go_wp2_with fail
          refine wp_region_canon rfl (fun _ => True) [(0, .p), (1, .p), (2, .p), (3, .t), (4, .t), (5, .e false)] (by kernel_rfl) ?_
          rw [← hwd]
          clear hwd c0 c1 c2 c3 c4
          have hS0 : True := trivial
          (repeat ((first | (refine C_p (v := ?_) rfl rfl (fun w' => ?_) ?_; rotate_left; (go_simp; with_reducible rfl)) | (refine C_s (v := ?_) rfl rfl hS0 (fun w' hS => ?_) ?_; rotate_left; ((try dsimp only at hS); go_simp; with_reducible rfl)) | (refine C_t (v := ?_) rfl rfl ?_ ?_; rotate_left; (go_simp; with_reducible rfl)) | (refine C_po rfl rfl ?_) | (refine C_so rfl rfl hS0 ?_) | (refine C_to rfl rfl ?_)); simp only [Act.put, List.setIfInBounds_toArray, List.set_cons_zero, List.set_cons_succ]))
          (refine C_e rfl rfl (fun K hK => ?_); go_simp)
          (refine hK _ _ (fun h => by cases h) ?_; clear hK K; (try simp only [Act.put, List.setIfInBounds_toArray, List.set_cons_zero, List.set_cons_succ]))
          refine C_nil ?_
          go_wp2_with fail
          go_meet
          exact ⟨n4, by have := HS'.out; simpa only [sep_comm, sep_lcomm, sep_assoc] using this⟩
        /-VED2-/
      case rest =>
        obtain ⟨n4, h6⟩ := hcut
        have hwn := hwf.out.now h6
        obtain ⟨q0, q1⟩ := hwn
        clear c0 c1 c2 c3 c4 HC
        have c0 : wc.cell? ⟨g, 0, none⟩ = some (.int .i64 (lv : Nat)) := h6.cell 0
        have c1 : wc.cell? ⟨g, 1, none⟩ = some (.int .i64 n) := h6.cell 1
        by_cases hl12 : lv = 12
        · have hnz : n = 0 := by rw [HN.out, hl12]; unfold atB; omega
          subst hl12
          subst hnz
          have heq : (Op.equal 106 (.agg #[.int .i64 ((12 : Nat) : Int), .int .i64 0]) (.agg #[.int .i64 12, .int .i64 0])).run Tryd.prog wc = .ok true wc := blk_equal wc (12, 0) (12, 0)
          have H6 := Lib.hid h6
          clear h6
          go_wp2_with fail
          refine bodyPost_ret (results_none rfl _ _ _) rfl ?_
          refine ⟨rfl, n4, ?_⟩
          have h7 := H6.out.drop.drop
          rw [show 12 + 1 = 13 from rfl, hmP_end] at h7
          exact h7
        · have heq : (Op.equal 106 (.agg #[.int .i64 (lv : Nat), .int .i64 n]) (.agg #[.int .i64 12, .int .i64 0])).run Tryd.prog wc = .ok false wc := by
            have := blk_equal wc (lv, n) (12, 0)
            rw [decide_eq_false (fun e => hl12 (Prod.mk.inj e).1)] at this
            exact this
          have H6 := Lib.hid h6
          clear h6
          go_wp2_with fail
          have h7 := H6.out.drop.alloc (.cells #[.int .i64 ((lv : Nat) + 1 : Int), .int .i64 (n / 2)] 106)
          have e1 : ((lv + 1 : Nat) : Int) = (lv : Int) + 1 := by omega
          have e2 : atB k (lv + 1) = n / 2 := by rw [atB_succ, ← HN.out]
          refine ⟨⟨lv + 1, wc.heap.size, n4, hbN M' lv n, by omega, rfl, Lib.hid (fun h => by omega), ?_⟩, ?_⟩
          · rw [e1, e2, ← HQ.out.1, ← HQ.out.2]
            exact h7
          · have c2 : (wc.alloc (.cells #[.int .i64 ((lv : Nat) + 1 : Int), .int .i64 (n / 2)] 106)).cell? ⟨wc.heap.size, 0, none⟩ = some (.int .i64 ((lv + 1 : Nat) : Int)) := by rw [e1]; exact h7.cell 0
            rw [lvOf_at c2, HLV.out]
            omega
end Go.Proofs.YtcmjbjlliehdiaaDoor
/- 'append' of a string onto an owned row of bytes. Plain Lean, no program in sight. -/
namespace PA
open Go Go.RowKit
section
variable {P : Program} {W w : World} {A : Assn}
theorem strCells_bv (s : ByteArray) : Lib.strCells s = s.data.toList.map bv := rfl
theorem run_append_osl_str (t u ty E : Nat) (i : TypeInfo) (ht : P.underlying t = some (.slice E)) (hu : P.underlying u = some .string) (hi : P.info? E = some i) (hz : i.zero = some (.int .u8 0))
    (hk : i.size = 1) (hb : i.bytes = 1) {a : Option Addr} {n c : Nat} {xs : List Value} (h : Sat W w (sep (osl E 1 a n c xs) A)) (s : ByteArray) (h63 : n + s.size ≤ 140737488355328) :
    ∃ a' c' w', (Builtin.append_ #[t, u] ty #[.slice a n c, .string s]).run P w = .ok (.slice a' (n + s.size) c') w' ∧ Sat W w' (sep (osl E 1 a' (n + s.size) c' (xs ++ s.data.toList.map bv)) A) := by
  have hsl : (s.data.toList.map bv).length = s.size := by simp
  have hmx : n + s.size ≤ maxLen := by unfold maxLen; omega
  rcases h.osl_cases with ⟨rfl, rfl, rfl, rfl, h0⟩ | ⟨g, cur, rfl, hlen, hnc, hcm, hcs, htake, hS⟩
  · by_cases hm : s.size = 0
    · have hn : s.data.toList.map bv = [] := List.eq_nil_of_length_eq_zero (by rw [hsl]; exact hm)
      refine ⟨none, 0, w, ?_, by rw [hm, hn]; exact h⟩
      have hf := Lib.run_firstCells_string (P := P) w 1 s
      rw [hm] at hf
      simp [Builtin.append_, run_underlying ht, run_underlying hu, Go.sizeOf, typeInfo, hi, hk, Builtin.lenOf, hm, hf]
    · have hr := run_append_nil_string (P := P) w t u ty E i (.int .u8 0) ht hu hi hz s (by omega) (by omega) (by rw [hb]; omega)
      have e1 : (s.data.map fun b => Value.int .u8 b.toNat) = (s.data.toList.map bv).toArray := by
        apply Array.ext'
        simp [bv, Function.comp_def]
      rw [e1] at hr
      have hcap := grownCap_ok w s.size 0 E (by omega)
      refine ⟨_, _, _, by rw [Nat.zero_add]; exact hr, ?_⟩
      refine ((h0.drew.alloc _).osl_mk (0 + s.size) _ 1 ([] ++ s.data.toList.map bv) (by simp) (by omega) hcap.2 ?_ ?_)
      · have hz1 : (Value.int IntKind.u8 0).cells.size = 1 := rfl
        simp only [Array.size_append, List.size_toArray, size_zeroCells', hz1, hsl]
        omega
      · simp
  · simp only [Nat.mul_one] at hlen hcs htake
    by_cases hroom : n + s.size ≤ c
    · have hr := Lib.run_append_room_string (P := P) w t u ty E i ht hu hi hk g n c cur hS.blk_heap s hroom (by omega)
      refine ⟨_, _, _, hr, (hS.setRow _).osl_mk (n + s.size) c 1 _ (by rw [List.length_append, hlen, hsl]; omega) hroom hcm ?_ ?_⟩
      · simp only [strCells_bv, List.size_toArray, List.length_append, List.length_take, List.length_drop, Array.length_toList, hsl]
        omega
      · rw [strCells_bv, htake]
        have hl2 : (xs ++ s.data.toList.map bv).length = (n + s.size) * 1 := by rw [List.length_append, hlen, hsl]; omega
        rw [← hl2]
        exact List.take_left
    · have hr := Lib.run_append_grow_string (P := P) w t u ty E i (.int .u8 0) ht hu hi hz ⟨g, 0, none⟩ n c xs (by rw [hk]; omega) (fun j u hu => by
          obtain ⟨g', e, hc⟩ := h.osl_at (fun e => by rw [e] at hu; simp at hu)
          cases e
          have := hc j u hu
          unfold Addr.add
          split
          · rename_i e; subst e; exact this
          · simpa using this) s (by omega) (by omega) (by rw [hb]; exact growslice_fits (by omega) (by omega))
      have hcap := grownCap_ok w (n + s.size) c E hmx
      refine ⟨_, _, _, hr, ((hS.forget.drew).alloc _).osl_mk (n + s.size) _ 1 _ (by rw [List.length_append, hlen, hsl]; omega) hcap.1 hcap.2 ?_ ?_⟩
      · have hz1 : (Value.int IntKind.u8 0).cells.size = 1 := rfl
        simp only [strCells_bv, Array.size_append, List.size_toArray, size_zeroCells', hz1, hsl, hlen]
        omega
      · have hl2 : (xs ++ s.data.toList.map bv).length = (n + s.size) * 1 := by rw [List.length_append, hlen, hsl]; omega
        rw [← hl2, strCells_bv]
        simp only [Array.toList_append, List.append_assoc]
        rw [← List.append_assoc]
        exact List.take_left
theorem wpl_append_osl_str {ops : Array Oper} {rest : List Oper} {o : Oper} {ac : Act} {Q : Exit → Act → World → Prop} (hgd : o.guard = none) (sl y : Operand) (t u : TypeId)
    (ho : o.op = .call { callee := .builtin .append, args := #[sl, y], argTypes := #[t, u] })
    (E : Nat) (ht : P.underlying t = some (.slice E)) (hu : P.underlying u = some .string) (hi : (P.info? E).map (fun i => (i.zero, i.size, i.bytes)) = some (some (.int .u8 0), 1, 1))
    {a : Option Addr} {n c : Nat} {xs : List Value} (hs : ac.eval sl = .slice a n c) (h : Sat W w (sep (osl E 1 a n c xs) A))
    (s : ByteArray) (hy : ac.eval y = .string s) (h63 : n + s.size ≤ 140737488355328)
    (hK : ∀ a' c' w', Sat W w' (sep (osl E 1 a' (n + s.size) c' (xs ++ s.data.toList.map bv)) A) → wpList P ops Q rest (ac.put o.dst (.slice a' (n + s.size) c')) w') : wpList P ops Q (o :: rest) ac w := by
  obtain ⟨i, hi1, hi2, hi3, hi4⟩ := info_parts hi
  obtain ⟨a', c', w', hr, hS⟩ := run_append_osl_str t u o.type E i ht hu hi1 hi2 hi3 hi4 h s h63
  refine wpList_plain hgd fun _ hk => wp_of_run ?_ (hk _ _ (hK _ _ _ hS))
  simp only [execOp, ho, resolve, invoke, builtin]
  simp [hs, hy, hr]
end
end PA
