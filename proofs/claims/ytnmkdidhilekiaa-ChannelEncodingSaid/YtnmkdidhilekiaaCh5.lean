/- Package channel: In, where nothing is delivered. -/
import Derived.Test.YtnmkdidhilekiaaCh4
namespace Go.Proofs.Ytnmkdidhilekiaa
open Go.RowKit PA
set_option maxHeartbeats 4000000 in
set_option maxRecDepth 100000 in
theorem in_zero {W w : World} {A : Assn} (p : Nat) (st : AEnd) (seq ack : Int) (v : Value) (bs : List UInt8) (h : Sat W w (sep (isEnd p st) (sep (rBytes.is [v] bs) A)))
    (hv : validB seq ack bs.length = true) (h2 : ack ≤ st.ack + st.wait.length) (h3 : seq ≤ st.dlv + 16) (hs : seq = 0)
    (ha1 : 0 ≤ st.ack) (ha2 : st.ack + st.wait.length ≤ 1000000000) (hd1 : 0 ≤ st.dlv) (hd2 : st.dlv ≤ 1000000000) (hbl : bs.length ≤ 65536) :
    Calls Try.prog 19 #[.pointer (some ⟨p, 0, none⟩), .agg #[.int .i64 seq, .int .i64 ack, v]] w fun e w' => e = .returned (.slice none 0 0) ∧ Sat W w' (sep (isEnd p (ackSt st ack)) A) := by
  have HS := Lib.hid hs
  clear hs
  obtain ⟨aw, l, cw, vws, mb, f, nf, h⟩ := isEnd_open h
  have h0 := h
  simp only [endAt, sep_assoc] at h
  have hvl := h.p2.rows_len
  have hol := h.p1.osl_len
  have hll : l = st.wait.length := by omega
  obtain ⟨ab, cb, rfl, hwf, hB⟩ := h.p5.bytes_open
  have hmx : bs.length ≤ maxLen := Nat.le_trans hwf.1 hwf.2.1
  have c1 : w.cell? ⟨p, 1, none⟩ = some (.slice aw l cw) := h.cell 1
  have c2 : w.cell? ⟨p, 2, none⟩ = some (.int .i64 st.ack) := h.cell 2
  have c3 : w.cell? ⟨p, 3, none⟩ = some (.int .i64 st.dlv) := h.cell 3
  have hq := (h0.alloc (.cells #[.int .i64 seq, .int .i64 ack, .slice ab bs.length cb] 44)).settle
  have pq : p < w.heap.size := h.lt
  have va : 0 ≤ ack := by simp [validB] at hv; omega
  obtain ⟨nb, hnb⟩ : ∃ nb, nb = bs.length := ⟨_, rfl⟩
  rw [← hnb] at hwf hmx hv hbl hq h0 h ⊢
  rw [← hll] at h2 ha2
  have HNB := Lib.hid hnb
  have Hll := Lib.hid hll
  have Hol := Lib.hid hol
  have Hvl := Lib.hid hvl
  have HV := Lib.hid hv
  have e1 : IntKind.i64.wrap (st.ack + (l : Int)) = st.ack + l := IntWalk.i64_in _ (by omega)
  have e2 : IntKind.i64.wrap (st.dlv + 16) = st.dlv + 16 := IntWalk.i64_in _ (by omega)
  have b1 : decide (st.ack + (l : Int) < ack) = false := by simp; omega
  have b2 : decide (st.dlv + 16 < seq) = false := by simp; omega
  clear hll hol hvl hnb hv hB
  go_enter Try.func19, Try.ntmps19
  go_wp2
  refine wp_region_canon rfl (fun _ => True) [(0, .t), (1, .e false), (2, .p), (3, .p), (4, .p), (5, .t), (6, .p), (7, .p), (8, .p), (9, .t), (10, .p), (11, .p), (12, .p), (13, .t), (14, .p), (15, .p), (16, .p), (17, .p), (18, .p), (19, .p), (20, .t), (21, .p), (22, .p), (23, .p), (24, .t), (25, .p), (26, .p), (27, .p)] (by kernel_rfl) ?_
  have hS0 : True := trivial
  (repeat (first | (refine C_p (v := ?_) rfl rfl (fun w' => ?_) ?_; rotate_left; (go_simp; with_reducible rfl); simp only [Act.put, List.setIfInBounds_toArray, List.set_cons_zero, List.set_cons_succ]) | (refine C_s (v := ?_) rfl rfl hS0 (fun w' hS => ?_) ?_; rotate_left; ((try dsimp only at hS); go_simp; with_reducible rfl); simp only [Act.put, List.setIfInBounds_toArray, List.set_cons_zero, List.set_cons_succ]) | (refine C_t (v := ?_) rfl rfl ?_ ?_; rotate_left; (go_simp; with_reducible rfl); simp only [Act.put, List.setIfInBounds_toArray, List.set_cons_zero, List.set_cons_succ]) | (refine C_po rfl rfl ?_; simp only [Act.put, List.setIfInBounds_toArray, List.set_cons_zero, List.set_cons_succ]) | (refine C_so rfl rfl hS0 ?_; simp only [Act.put, List.setIfInBounds_toArray, List.set_cons_zero, List.set_cons_succ]) | (refine C_to rfl rfl ?_; simp only [Act.put, List.setIfInBounds_toArray, List.set_cons_zero, List.set_cons_succ])))
  (refine C_e rfl rfl (fun K hK => ?_); go_simp)
  refine (valid_spec _ _ _ _ _ hq.drew hmx).mono ?_
  rintro e w1 ⟨he, hS⟩
  rw [HV.out] at he
  subst he
  simp only [endAt, sep_assoc] at hS
  generalize w.heap.size = q at *
  clear h h0 hq c1 c2 c3 pq hmx
  have d0 : w1.cell? ⟨q, 0, none⟩ = some (.int .i64 seq) := hS.imm_cell 0
  have d1 : w1.cell? ⟨q, 1, none⟩ = some (.int .i64 ack) := hS.imm_cell 1
  have c1 : w1.cell? ⟨p, 1, none⟩ = some (.slice aw l cw) := hS.p1.cell 1
  have c2 : w1.cell? ⟨p, 2, none⟩ = some (.int .i64 st.ack) := hS.p1.cell 2
  have c3 : w1.cell? ⟨p, 3, none⟩ = some (.int .i64 st.dlv) := hS.p1.cell 3
  (refine hK _ _ (fun h => by cases h) ?_; clear hK K; (try simp only [Act.put, List.setIfInBounds_toArray, List.set_cons_zero, List.set_cons_succ]))
  (repeat (first | (refine C_p (v := ?_) rfl rfl (fun w' => ?_) ?_; rotate_left; (go_simp; with_reducible rfl); simp only [Act.put, List.setIfInBounds_toArray, List.set_cons_zero, List.set_cons_succ]) | (refine C_s (v := ?_) rfl rfl hS0 (fun w' hS => ?_) ?_; rotate_left; ((try dsimp only at hS); go_simp; with_reducible rfl); simp only [Act.put, List.setIfInBounds_toArray, List.set_cons_zero, List.set_cons_succ]) | (refine C_t (v := ?_) rfl rfl ?_ ?_; rotate_left; (go_simp; with_reducible rfl); simp only [Act.put, List.setIfInBounds_toArray, List.set_cons_zero, List.set_cons_succ]) | (refine C_po rfl rfl ?_; simp only [Act.put, List.setIfInBounds_toArray, List.set_cons_zero, List.set_cons_succ]) | (refine C_so rfl rfl hS0 ?_; simp only [Act.put, List.setIfInBounds_toArray, List.set_cons_zero, List.set_cons_succ]) | (refine C_to rfl rfl ?_; simp only [Act.put, List.setIfInBounds_toArray, List.set_cons_zero, List.set_cons_succ])))
  refine C_nil ?_
  clear e1 e2 b1 b2
  go_wp2_with fail
  have e1 : IntKind.i64.wrap (ack - st.ack) = ack - st.ack := IntWalk.i64_in _ (by omega)
  refine wp_region_canon rfl (fun _ => True) [(0, .p), (1, .t), (2, .p), (3, .p), (4, .p), (5, .t), (6, .p), (7, .p)] (by kernel_rfl) ?_
  (repeat (first | (refine C_p (v := ?_) rfl rfl (fun w' => ?_) ?_; rotate_left; (go_simp; with_reducible rfl); simp only [Act.put, List.setIfInBounds_toArray, List.set_cons_zero, List.set_cons_succ]) | (refine C_s (v := ?_) rfl rfl hS0 (fun w' hS => ?_) ?_; rotate_left; ((try dsimp only at hS); go_simp; with_reducible rfl); simp only [Act.put, List.setIfInBounds_toArray, List.set_cons_zero, List.set_cons_succ]) | (refine C_t (v := ?_) rfl rfl ?_ ?_; rotate_left; (go_simp; with_reducible rfl); simp only [Act.put, List.setIfInBounds_toArray, List.set_cons_zero, List.set_cons_succ]) | (refine C_po rfl rfl ?_; simp only [Act.put, List.setIfInBounds_toArray, List.set_cons_zero, List.set_cons_succ]) | (refine C_so rfl rfl hS0 ?_; simp only [Act.put, List.setIfInBounds_toArray, List.set_cons_zero, List.set_cons_succ]) | (refine C_to rfl rfl ?_; simp only [Act.put, List.setIfInBounds_toArray, List.set_cons_zero, List.set_cons_succ])))
  refine C_nil ?_
  clear e1
  go_upto_if 47 with (fail)
  go_cut [] (fun wc => ∃ aw l cw vws, Sat W wc (sep (endAt p (ackSt st ack) aw l cw vws mb f nf) (sep (imm q (.cells #[.int .i64 seq, .int .i64 ack, .slice ab nb cb] 44)) (sep (rBytes.is [.slice ab nb cb] bs) A))))
  case first =>
    by_cases hlt : st.ack < ack
    · obtain ⟨n, hn⟩ : ∃ n : Nat, ack - st.ack = n := ⟨(ack - st.ack).toNat, by omega⟩
      have n0 : 0 < n := by omega
      have n1 : n ≤ l := by omega
      have hack : ackSt st ack = { st with wait := st.wait.drop n, ack := ack } := by unfold ackSt; rw [if_pos hlt, hn]; simp
      have HA := Lib.hid hack
      have hone := hS.p3.rows_all (fun u => u.oneCell' = true) rBytes_one
      have HO := Lib.hid hone
      clear hack hone
      go_wp2_with fail
      clear hn
      refine (delete_bytess _ _ _ n _ hS.p2.drew n0 n1 HO.out).mono ?_
      rintro e w2 ⟨rfl, hS2⟩
      have c1' : w2.cell? ⟨p, 1, none⟩ = some (.slice aw l cw) := hS2.p2.cell 1
      have f1' : w2.frozen? ⟨p, 1, none⟩ = false := hS2.p2.unfrozen 1
      have c2' : w2.cell? ⟨p, 2, none⟩ = some (.int .i64 st.ack) := hS2.p2.cell 2
      have f2' : w2.frozen? ⟨p, 2, none⟩ = false := hS2.p2.unfrozen 2
      have d1' : w2.cell? ⟨q, 1, none⟩ = some (.int .i64 ack) := hS2.p1.imm_cell 1
      have hpq : p ≠ q := (hS2.p1.p2).ne_imm
      have hqp : ¬ q = p := fun e => hpq e.symm
      clear hS c1 c2 c3 d0 d1
      go_wp2
      go_meet
      have h3 := (hS2.p2.setCell 1 (.slice aw (l - n) cw)).setCell 2 (.int .i64 ack)
      rw [show ((endCells st.win aw l cw st.ack st.dlv mb st.ow).setIfInBounds 1 (.slice aw (l - n) cw)).setIfInBounds 2 (.int .i64 ack) = endCells st.win aw (l - n) cw ack st.dlv mb st.ow from rfl] at h3
      have h4 := h3.p3.rows_drop n
      rw [Nat.mul_one] at h4
      refine ⟨aw, l - n, cw, vws.drop n, ?_⟩
      rw [HA.out]
      simpa only [endAt, sep_comm, sep_lcomm, sep_assoc] using h4
    · have hack : ackSt st ack = st := by unfold ackSt; rw [if_neg hlt]
      have HA := Lib.hid hack
      clear hack
      go_wp2
      go_meet
      refine ⟨aw, l, cw, vws, ?_⟩
      rw [HA.out]
      have h4 := hS.drew
      simpa only [endAt, sep_comm, sep_lcomm, sep_assoc] using h4
  case rest =>
    clear hS d0 d1 c1 c2 c3 Hll Hol Hvl h2 ha2
    obtain ⟨aw, l, cw, vws, hS⟩ := hcut
    have d0 : wc.cell? ⟨q, 0, none⟩ = some (.int .i64 seq) := hS.p1.imm_cell 0
    rw [HS.out] at d0
    go_wp2
    go_ret
    refine ⟨rfl, ?_⟩
    exact isEnd_mk (hS.p1.tail.p1.tail)
set_option maxHeartbeats 4000000 in
set_option maxRecDepth 100000 in
theorem in_bad {W w : World} {A : Assn} (p : Nat) (st : AEnd) (seq ack : Int) (v : Value) (bs : List UInt8) (h : Sat W w (sep (isEnd p st) (sep (rBytes.is [v] bs) A)))
    (hv : validB seq ack bs.length = false ∨ (validB seq ack bs.length = true ∧ (st.ack + st.wait.length < ack ∨ (ack ≤ st.ack + st.wait.length ∧ st.dlv + 16 < seq))))
    (ha1 : 0 ≤ st.ack) (ha2 : st.ack + st.wait.length ≤ 1000000000) (hd1 : 0 ≤ st.dlv) (hd2 : st.dlv ≤ 1000000000) :
    Calls Try.prog 19 #[.pointer (some ⟨p, 0, none⟩), .agg #[.int .i64 seq, .int .i64 ack, v]] w fun e w' => e = .returned (.slice none 0 0) ∧ Sat W w' (sep (isEnd p st) A) := by
  obtain ⟨aw, l, cw, vws, mb, f, nf, h⟩ := isEnd_open h
  have h0 := h
  simp only [endAt, sep_assoc] at h
  have hvl := h.p2.rows_len
  have hol := h.p1.osl_len
  have hll : l = st.wait.length := by omega
  obtain ⟨ab, cb, rfl, hwf, hB⟩ := h.p5.bytes_open
  have hmx : bs.length ≤ maxLen := Nat.le_trans hwf.1 hwf.2.1
  have hq := (h0.alloc (.cells #[.int .i64 seq, .int .i64 ack, .slice ab bs.length cb] 44)).settle
  obtain ⟨nb, hnb⟩ : ∃ nb, nb = bs.length := ⟨_, rfl⟩
  rw [← hnb] at hmx hv hq h0 h ⊢
  rw [← hll] at hv ha2
  have e1 : IntKind.i64.wrap (st.ack + (l : Int)) = st.ack + l := IntWalk.i64_in _ (by omega)
  have e2 : IntKind.i64.wrap (st.dlv + 16) = st.dlv + 16 := IntWalk.i64_in _ (by omega)
  clear hll hol hvl hnb hB hwf
  have HV : ∃ b, validB seq ack nb = b ∧ (b = false ∨ (b = true ∧ (st.ack + l < ack ∨ (ack ≤ st.ack + l ∧ st.dlv + 16 < seq)))) := ⟨_, rfl, hv⟩
  obtain ⟨b, hb, hcase⟩ := HV
  have HB := Lib.hid hb
  clear hv hb
  have fin : ∀ w', Sat W w' (sep (imm w.heap.size (.cells #[.int .i64 seq, .int .i64 ack, .slice ab nb cb] 44)) (sep (endAt p st aw l cw vws mb f nf) (sep (rBytes.is [.slice ab nb cb] bs) A))) → Sat W w' (sep (isEnd p st) A) :=
    fun w' hh => isEnd_mk (hh.tail.p1.tail)
  have FIN := Lib.hid fin
  clear fin
  go_enter Try.func19, Try.ntmps19
  go_wp2
  refine wp_region_canon rfl (fun _ => True) [(0, .t), (1, .e false), (2, .p), (3, .p), (4, .p), (5, .t), (6, .p), (7, .p), (8, .p), (9, .t), (10, .p), (11, .p), (12, .p), (13, .t), (14, .p), (15, .p), (16, .p), (17, .p), (18, .p), (19, .p), (20, .t), (21, .p), (22, .p), (23, .p), (24, .t), (25, .p), (26, .p), (27, .p)] (by kernel_rfl) ?_
  have hS0 : True := trivial
  (repeat (first | (refine C_p (v := ?_) rfl rfl (fun w' => ?_) ?_; rotate_left; (go_simp; with_reducible rfl); simp only [Act.put, List.setIfInBounds_toArray, List.set_cons_zero, List.set_cons_succ]) | (refine C_s (v := ?_) rfl rfl hS0 (fun w' hS => ?_) ?_; rotate_left; ((try dsimp only at hS); go_simp; with_reducible rfl); simp only [Act.put, List.setIfInBounds_toArray, List.set_cons_zero, List.set_cons_succ]) | (refine C_t (v := ?_) rfl rfl ?_ ?_; rotate_left; (go_simp; with_reducible rfl); simp only [Act.put, List.setIfInBounds_toArray, List.set_cons_zero, List.set_cons_succ]) | (refine C_po rfl rfl ?_; simp only [Act.put, List.setIfInBounds_toArray, List.set_cons_zero, List.set_cons_succ]) | (refine C_so rfl rfl hS0 ?_; simp only [Act.put, List.setIfInBounds_toArray, List.set_cons_zero, List.set_cons_succ]) | (refine C_to rfl rfl ?_; simp only [Act.put, List.setIfInBounds_toArray, List.set_cons_zero, List.set_cons_succ])))
  (refine C_e rfl rfl (fun K hK => ?_); go_simp)
  refine (valid_spec _ _ _ _ _ hq.drew hmx).mono ?_
  rintro e w1 ⟨he, hS⟩
  rw [HB.out] at he
  subst he
  have hT := hS
  simp only [endAt, sep_assoc] at hS
  generalize w.heap.size = q at *
  clear h h0 hq hmx
  have d0 : w1.cell? ⟨q, 0, none⟩ = some (.int .i64 seq) := hS.imm_cell 0
  have d1 : w1.cell? ⟨q, 1, none⟩ = some (.int .i64 ack) := hS.imm_cell 1
  have c1 : w1.cell? ⟨p, 1, none⟩ = some (.slice aw l cw) := hS.p1.cell 1
  have c2 : w1.cell? ⟨p, 2, none⟩ = some (.int .i64 st.ack) := hS.p1.cell 2
  have c3 : w1.cell? ⟨p, 3, none⟩ = some (.int .i64 st.dlv) := hS.p1.cell 3
  clear hS
  rcases hcase with rfl | ⟨rfl, h5 | ⟨h5, h6⟩⟩
  · (refine hK _ _ (fun h => by cases h) ?_; clear hK K; (try simp only [Act.put, List.setIfInBounds_toArray, List.set_cons_zero, List.set_cons_succ]))
    (repeat (first | (refine C_p (v := ?_) rfl rfl (fun w' => ?_) ?_; rotate_left; (go_simp; with_reducible rfl); simp only [Act.put, List.setIfInBounds_toArray, List.set_cons_zero, List.set_cons_succ]) | (refine C_s (v := ?_) rfl rfl hS0 (fun w' hS => ?_) ?_; rotate_left; ((try dsimp only at hS); go_simp; with_reducible rfl); simp only [Act.put, List.setIfInBounds_toArray, List.set_cons_zero, List.set_cons_succ]) | (refine C_t (v := ?_) rfl rfl ?_ ?_; rotate_left; (go_simp; with_reducible rfl); simp only [Act.put, List.setIfInBounds_toArray, List.set_cons_zero, List.set_cons_succ]) | (refine C_po rfl rfl ?_; simp only [Act.put, List.setIfInBounds_toArray, List.set_cons_zero, List.set_cons_succ]) | (refine C_so rfl rfl hS0 ?_; simp only [Act.put, List.setIfInBounds_toArray, List.set_cons_zero, List.set_cons_succ]) | (refine C_to rfl rfl ?_; simp only [Act.put, List.setIfInBounds_toArray, List.set_cons_zero, List.set_cons_succ])))
    refine C_nil ?_
    go_wp2
    go_ret
    exact ⟨rfl, FIN.out _ hT⟩
  · have b1 : decide (st.ack + (l : Int) < ack) = true := by simp; omega
    (refine hK _ _ (fun h => by cases h) ?_; clear hK K; (try simp only [Act.put, List.setIfInBounds_toArray, List.set_cons_zero, List.set_cons_succ]))
    (repeat (first | (refine C_p (v := ?_) rfl rfl (fun w' => ?_) ?_; rotate_left; (go_simp; with_reducible rfl); simp only [Act.put, List.setIfInBounds_toArray, List.set_cons_zero, List.set_cons_succ]) | (refine C_s (v := ?_) rfl rfl hS0 (fun w' hS => ?_) ?_; rotate_left; ((try dsimp only at hS); go_simp; with_reducible rfl); simp only [Act.put, List.setIfInBounds_toArray, List.set_cons_zero, List.set_cons_succ]) | (refine C_t (v := ?_) rfl rfl ?_ ?_; rotate_left; (go_simp; with_reducible rfl); simp only [Act.put, List.setIfInBounds_toArray, List.set_cons_zero, List.set_cons_succ]) | (refine C_po rfl rfl ?_; simp only [Act.put, List.setIfInBounds_toArray, List.set_cons_zero, List.set_cons_succ]) | (refine C_so rfl rfl hS0 ?_; simp only [Act.put, List.setIfInBounds_toArray, List.set_cons_zero, List.set_cons_succ]) | (refine C_to rfl rfl ?_; simp only [Act.put, List.setIfInBounds_toArray, List.set_cons_zero, List.set_cons_succ])))
    refine C_nil ?_
    go_wp2
    go_ret
    exact ⟨rfl, FIN.out _ hT⟩
  · have b1 : decide (st.ack + (l : Int) < ack) = false := by simp; omega
    have b2 : decide (st.dlv + 16 < seq) = true := by simp; omega
    (refine hK _ _ (fun h => by cases h) ?_; clear hK K; (try simp only [Act.put, List.setIfInBounds_toArray, List.set_cons_zero, List.set_cons_succ]))
    (repeat (first | (refine C_p (v := ?_) rfl rfl (fun w' => ?_) ?_; rotate_left; (go_simp; with_reducible rfl); simp only [Act.put, List.setIfInBounds_toArray, List.set_cons_zero, List.set_cons_succ]) | (refine C_s (v := ?_) rfl rfl hS0 (fun w' hS => ?_) ?_; rotate_left; ((try dsimp only at hS); go_simp; with_reducible rfl); simp only [Act.put, List.setIfInBounds_toArray, List.set_cons_zero, List.set_cons_succ]) | (refine C_t (v := ?_) rfl rfl ?_ ?_; rotate_left; (go_simp; with_reducible rfl); simp only [Act.put, List.setIfInBounds_toArray, List.set_cons_zero, List.set_cons_succ]) | (refine C_po rfl rfl ?_; simp only [Act.put, List.setIfInBounds_toArray, List.set_cons_zero, List.set_cons_succ]) | (refine C_so rfl rfl hS0 ?_; simp only [Act.put, List.setIfInBounds_toArray, List.set_cons_zero, List.set_cons_succ]) | (refine C_to rfl rfl ?_; simp only [Act.put, List.setIfInBounds_toArray, List.set_cons_zero, List.set_cons_succ])))
    refine C_nil ?_
    go_wp2
    go_ret
    exact ⟨rfl, FIN.out _ hT⟩
end Go.Proofs.Ytnmkdidhilekiaa
