/- Package channel: In. -/
import Derived.Test.YtnmkdidhilekiaaCh3
import Derived.Deep.DeepCutAuto
import Derived.Deep.LoopGhost
namespace Go.Proofs.Ytnmkdidhilekiaa
open Go.RowKit PA
/-- What an acknowledgement does. -/
def ackSt (st : AEnd) (ack : Int) : AEnd := if st.ack < ack then { st with wait := st.wait.drop (ack - st.ack).toNat, ack := ack } else st
/-- What a message that comes does, before delivery. -/
def holdSt (st : AEnd) (seq : Int) (bs : List UInt8) : AEnd :=
  { st with ow := true, held := if st.dlv < seq ∧ st.held seq = none then fset st.held seq (some bs) else st.held }
def advSt (st : AEnd) : AEnd := { st with dlv := st.dlv + 1, held := fset st.held (st.dlv + 1) none }
/-- The messages outs are delivered, one after the other. -/
def DlvPre : AEnd → List (List UInt8) → AEnd → Prop
  | st, [], s => s = st
  | st, b :: outs, s => st.held (st.dlv + 1) = some b ∧ DlvPre (advSt st) outs s
theorem DlvPre.snoc : ∀ {st : AEnd} {outs : List (List UInt8)} {s : AEnd} {b : List UInt8}, DlvPre st outs s → s.held (s.dlv + 1) = some b → DlvPre st (outs ++ [b]) (advSt s)
  | _, [], _, _, rfl, h => ⟨h, rfl⟩
  | _, _ :: _, _, _, h, hb => ⟨h.1, h.2.snoc hb⟩
theorem _root_.PA.Sat.held_none {W w : World} {A : Assn} {f : Int → Option Value} {g : Int → Option (List UInt8)} (h : Sat W w (sep (isHeld f g) A)) (k : Int) : (f k).isSome = (g k).isSome := by
  have := h.pers_heap k
  revert this
  cases f k <;> cases g k <;> simp
theorem _root_.PA.Sat.held_some {W w : World} {A : Assn} {f : Int → Option Value} {g : Int → Option (List UInt8)} (h : Sat W w (sep (isHeld f g) A)) (k : Int) (b : List UInt8) (hk : g k = some b) :
    ∃ v, f k = some v ∧ Sat W w (sep (rBytes.is [v] b) (sep (isHeld f g) A)) := by
  obtain ⟨h1, h2, h3, I, m, h4, h5, h6, x, y, d, rfl, ⟨rfl, hr⟩, hA⟩ := h
  have hrk := hr k
  rw [hk] at hrk
  cases hf : f k with
  | none => rw [hf] at hrk; exact hrk.elim
  | some v =>
    rw [hf] at hrk
    exact ⟨v, rfl, h1, h2, h3, I, _, h4, h5, h6, Mem.no, _, fun _ => .inl rfl, (Mem.un_no _).symm, ⟨rfl, hrk⟩, Mem.no, y, d, rfl, ⟨rfl, hr⟩, hA⟩
theorem _root_.PA.Sat.held_set {W w : World} {A : Assn} {f : Int → Option Value} {g : Int → Option (List UInt8)} {v : Value} {b : List UInt8} (h : Sat W w (sep (isHeld f g) (sep (rBytes.is [v] b) A))) (k : Int) :
    Sat W w (sep (isHeld (fset f k (some v)) (fset g k (some b))) A) := by
  obtain ⟨h1, h2, h3, I, m, h4, h5, h6, x, y, d, rfl, ⟨rfl, hr⟩, x2, y2, d2, rfl, ⟨rfl, hv⟩, hA⟩ := h
  refine ⟨h1, h2, h3, I, _, h4, h5, by simpa only [Mem.un_no] using h6, Mem.no, y2, fun _ => .inl rfl, (Mem.un_no _).symm, ⟨rfl, fun x => ?_⟩, hA⟩
  by_cases e : x = k
  · simp only [fset, e, if_true]; exact hv
  · simp only [fset, e, if_false]; exact hr x
theorem _root_.PA.Sat.held_del {W w : World} {A : Assn} {f : Int → Option Value} {g : Int → Option (List UInt8)} (h : Sat W w (sep (isHeld f g) A)) (k : Int) : Sat W w (sep (isHeld (fset f k none) (fset g k none)) A) := by
  obtain ⟨h1, h2, h3, I, m, h4, h5, h6, x, y, d, rfl, ⟨rfl, hr⟩, hA⟩ := h
  refine ⟨h1, h2, h3, I, _, h4, h5, h6, Mem.no, y, fun _ => .inl rfl, rfl, ⟨rfl, fun x => ?_⟩, hA⟩
  by_cases e : x = k
  · simp only [fset, e, if_true]
  · simp only [fset, e, if_false]; exact hr x
def InRel (W : World) (A : Assn) (p : Nat) (st0 : AEnd) (k : Nat) (out : Value) (wr : World) : Prop :=
  ∃ (a : Option Addr) (c : Nat) (vs : List Value) (outs : List (List UInt8)) (s : AEnd) (aw : Option Addr) (l cw : Nat) (vws : List Value) (mb : Nat) (f : Int → Option Value),
    out = .slice a outs.length c ∧ DlvPre st0 outs s ∧ 0 ≤ s.dlv ∧ s.dlv ≤ 2000000000 ∧ (outs.length : Int) ≤ s.dlv ∧ (∀ k, s.held k ≠ none → k ≤ 2000000000) ∧
    Sat W wr (sep (osl 31 1 a outs.length c vs) (sep ((rBytes.rows 1).is vs outs) (sep (endAt p s aw l cw vws mb f k) A)))
theorem zeroBytes (w : World) : (zeroValue 31).run Try.prog w = .ok (.slice none 0 0) w := by kernel_rfl
set_option maxHeartbeats 4000000 in
set_option maxRecDepth 100000 in
theorem in_ok {W w : World} {A : Assn} (p : Nat) (st : AEnd) (seq ack : Int) (v : Value) (bs : List UInt8) (h : Sat W w (sep (isEnd p st) (sep (rBytes.is [v] bs) A)))
    (hv : validB seq ack bs.length = true) (h2 : ack ≤ st.ack + st.wait.length) (h3 : seq ≤ st.dlv + 16) (hs : 0 < seq) (hk : ∀ k, st.held k ≠ none → k ≤ 2000000000)
    (ha1 : 0 ≤ st.ack) (ha2 : st.ack + st.wait.length ≤ 1000000000) (hd1 : 0 ≤ st.dlv) (hd2 : st.dlv ≤ 1000000000) (hbl : bs.length ≤ 65536) :
    Calls Try.prog 19 #[.pointer (some ⟨p, 0, none⟩), .agg #[.int .i64 seq, .int .i64 ack, v]] w fun e w' => ∃ a c vs outs s, e = .returned (.slice a outs.length c) ∧
      DlvPre (holdSt (ackSt st ack) seq bs) outs s ∧ s.held (s.dlv + 1) = none ∧
      Sat W w' (sep (osl 31 1 a outs.length c vs) (sep ((rBytes.rows 1).is vs outs) (sep (isEnd p s) A))) := by
  obtain ⟨aw, l, cw, vws, mb, f, nf, h⟩ := isEnd_open h
  have h0 := h
  simp only [endAt, sep_assoc] at h
  have hvl := h.p2.rows_len
  have hol := h.p1.osl_len
  have hll : l = st.wait.length := by omega
  obtain ⟨ab, cb, rfl, hwf, hB⟩ := h.p5.bytes_open
  have hmx : bs.length ≤ maxLen := Nat.le_trans hwf.1 hwf.2.1
  have c1 : w.cell? ⟨p, 1, none⟩ = some (.slice aw l cw) := h.cell 1
  have c2 : w.cell? ⟨p, 2, none⟩ = some (.int .i64 st.ack) := h.cell 2
  have c3 : w.cell? ⟨p, 3, none⟩ = some (.int .i64 st.dlv) := h.cell 3
  have hq := (h0.alloc (.cells #[.int .i64 seq, .int .i64 ack, .slice ab bs.length cb] 44)).settle
  have pq : p < w.heap.size := h.lt
  have va : 0 ≤ ack := by simp [validB] at hv; omega
  obtain ⟨nb, hnb⟩ : ∃ nb, nb = bs.length := ⟨_, rfl⟩
  rw [← hnb] at hwf hmx hv hbl hq h0 h ⊢
  rw [← hll] at h2 ha2
  have HNB := Lib.hid hnb
  have Hll := Lib.hid hll
  have Hol := Lib.hid hol
  have Hvl := Lib.hid hvl
  have HV := Lib.hid hv
  have HK := Lib.hid hk
  have e1 : IntKind.i64.wrap (st.ack + (l : Int)) = st.ack + l := IntWalk.i64_in _ (by omega)
  have e2 : IntKind.i64.wrap (st.dlv + 16) = st.dlv + 16 := IntWalk.i64_in _ (by omega)
  have b1 : decide (st.ack + (l : Int) < ack) = false := by simp; omega
  have b2 : decide (st.dlv + 16 < seq) = false := by simp; omega
  clear hll hol hvl hnb hv hk hB
  go_enter Try.func19, Try.ntmps19
  go_wp2
  refine wp_region_canon rfl (fun _ => True) [(0, .t), (1, .e false), (2, .p), (3, .p), (4, .p), (5, .t), (6, .p), (7, .p), (8, .p), (9, .t), (10, .p), (11, .p), (12, .p), (13, .t), (14, .p), (15, .p), (16, .p), (17, .p), (18, .p), (19, .p), (20, .t), (21, .p), (22, .p), (23, .p), (24, .t), (25, .p), (26, .p), (27, .p)] (by kernel_rfl) ?_
  have hS0 : True := trivial
  (repeat (first | (refine C_p (v := ?_) rfl rfl (fun w' => ?_) ?_; rotate_left; (go_simp; with_reducible rfl); simp only [Act.put, List.setIfInBounds_toArray, List.set_cons_zero, List.set_cons_succ]) | (refine C_s (v := ?_) rfl rfl hS0 (fun w' hS => ?_) ?_; rotate_left; ((try dsimp only at hS); go_simp; with_reducible rfl); simp only [Act.put, List.setIfInBounds_toArray, List.set_cons_zero, List.set_cons_succ]) | (refine C_t (v := ?_) rfl rfl ?_ ?_; rotate_left; (go_simp; with_reducible rfl); simp only [Act.put, List.setIfInBounds_toArray, List.set_cons_zero, List.set_cons_succ]) | (refine C_po rfl rfl ?_; simp only [Act.put, List.setIfInBounds_toArray, List.set_cons_zero, List.set_cons_succ]) | (refine C_so rfl rfl hS0 ?_; simp only [Act.put, List.setIfInBounds_toArray, List.set_cons_zero, List.set_cons_succ]) | (refine C_to rfl rfl ?_; simp only [Act.put, List.setIfInBounds_toArray, List.set_cons_zero, List.set_cons_succ])))
  (refine C_e rfl rfl (fun K hK => ?_); go_simp)
  refine (valid_spec _ _ _ _ _ hq.drew hmx).mono ?_
  rintro e w1 ⟨he, hS⟩
  rw [HV.out] at he
  subst he
  simp only [endAt, sep_assoc] at hS
  generalize w.heap.size = q at *
  clear h h0 hq c1 c2 c3 pq hmx
  have d0 : w1.cell? ⟨q, 0, none⟩ = some (.int .i64 seq) := hS.imm_cell 0
  have d1 : w1.cell? ⟨q, 1, none⟩ = some (.int .i64 ack) := hS.imm_cell 1
  have c1 : w1.cell? ⟨p, 1, none⟩ = some (.slice aw l cw) := hS.p1.cell 1
  have c2 : w1.cell? ⟨p, 2, none⟩ = some (.int .i64 st.ack) := hS.p1.cell 2
  have c3 : w1.cell? ⟨p, 3, none⟩ = some (.int .i64 st.dlv) := hS.p1.cell 3
  (refine hK _ _ (fun h => by cases h) ?_; clear hK K; (try simp only [Act.put, List.setIfInBounds_toArray, List.set_cons_zero, List.set_cons_succ]))
  (repeat (first | (refine C_p (v := ?_) rfl rfl (fun w' => ?_) ?_; rotate_left; (go_simp; with_reducible rfl); simp only [Act.put, List.setIfInBounds_toArray, List.set_cons_zero, List.set_cons_succ]) | (refine C_s (v := ?_) rfl rfl hS0 (fun w' hS => ?_) ?_; rotate_left; ((try dsimp only at hS); go_simp; with_reducible rfl); simp only [Act.put, List.setIfInBounds_toArray, List.set_cons_zero, List.set_cons_succ]) | (refine C_t (v := ?_) rfl rfl ?_ ?_; rotate_left; (go_simp; with_reducible rfl); simp only [Act.put, List.setIfInBounds_toArray, List.set_cons_zero, List.set_cons_succ]) | (refine C_po rfl rfl ?_; simp only [Act.put, List.setIfInBounds_toArray, List.set_cons_zero, List.set_cons_succ]) | (refine C_so rfl rfl hS0 ?_; simp only [Act.put, List.setIfInBounds_toArray, List.set_cons_zero, List.set_cons_succ]) | (refine C_to rfl rfl ?_; simp only [Act.put, List.setIfInBounds_toArray, List.set_cons_zero, List.set_cons_succ])))
  refine C_nil ?_
  clear e1 e2 b1 b2
  go_wp2_with fail
  have e1 : IntKind.i64.wrap (ack - st.ack) = ack - st.ack := IntWalk.i64_in _ (by omega)
  refine wp_region_canon rfl (fun _ => True) [(0, .p), (1, .t), (2, .p), (3, .p), (4, .p), (5, .t), (6, .p), (7, .p)] (by kernel_rfl) ?_
  (repeat (first | (refine C_p (v := ?_) rfl rfl (fun w' => ?_) ?_; rotate_left; (go_simp; with_reducible rfl); simp only [Act.put, List.setIfInBounds_toArray, List.set_cons_zero, List.set_cons_succ]) | (refine C_s (v := ?_) rfl rfl hS0 (fun w' hS => ?_) ?_; rotate_left; ((try dsimp only at hS); go_simp; with_reducible rfl); simp only [Act.put, List.setIfInBounds_toArray, List.set_cons_zero, List.set_cons_succ]) | (refine C_t (v := ?_) rfl rfl ?_ ?_; rotate_left; (go_simp; with_reducible rfl); simp only [Act.put, List.setIfInBounds_toArray, List.set_cons_zero, List.set_cons_succ]) | (refine C_po rfl rfl ?_; simp only [Act.put, List.setIfInBounds_toArray, List.set_cons_zero, List.set_cons_succ]) | (refine C_so rfl rfl hS0 ?_; simp only [Act.put, List.setIfInBounds_toArray, List.set_cons_zero, List.set_cons_succ]) | (refine C_to rfl rfl ?_; simp only [Act.put, List.setIfInBounds_toArray, List.set_cons_zero, List.set_cons_succ])))
  refine C_nil ?_
  clear e1
  go_upto_if 47 with (fail)
  go_cut [] (fun wc => ∃ aw l cw vws, Sat W wc (sep (endAt p (ackSt st ack) aw l cw vws mb f nf) (sep (imm q (.cells #[.int .i64 seq, .int .i64 ack, .slice ab nb cb] 44)) (sep (rBytes.is [.slice ab nb cb] bs) A))))
  case first =>
    by_cases hlt : st.ack < ack
    · obtain ⟨n, hn⟩ : ∃ n : Nat, ack - st.ack = n := ⟨(ack - st.ack).toNat, by omega⟩
      have n0 : 0 < n := by omega
      have n1 : n ≤ l := by omega
      have hack : ackSt st ack = { st with wait := st.wait.drop n, ack := ack } := by unfold ackSt; rw [if_pos hlt, hn]; simp
      have HA := Lib.hid hack
      have hone := hS.p3.rows_all (fun u => u.oneCell' = true) rBytes_one
      have HO := Lib.hid hone
      clear hack hone
      go_wp2_with fail
      clear hn
      refine (delete_bytess _ _ _ n _ hS.p2.drew n0 n1 HO.out).mono ?_
      rintro e w2 ⟨rfl, hS2⟩
      have c1' : w2.cell? ⟨p, 1, none⟩ = some (.slice aw l cw) := hS2.p2.cell 1
      have f1' : w2.frozen? ⟨p, 1, none⟩ = false := hS2.p2.unfrozen 1
      have c2' : w2.cell? ⟨p, 2, none⟩ = some (.int .i64 st.ack) := hS2.p2.cell 2
      have f2' : w2.frozen? ⟨p, 2, none⟩ = false := hS2.p2.unfrozen 2
      have d1' : w2.cell? ⟨q, 1, none⟩ = some (.int .i64 ack) := hS2.p1.imm_cell 1
      have hpq : p ≠ q := (hS2.p1.p2).ne_imm
      have hqp : ¬ q = p := fun e => hpq e.symm
      clear hS c1 c2 c3 d0 d1
      go_wp2
      go_meet
      have h3 := (hS2.p2.setCell 1 (.slice aw (l - n) cw)).setCell 2 (.int .i64 ack)
      rw [show ((endCells st.win aw l cw st.ack st.dlv mb st.ow).setIfInBounds 1 (.slice aw (l - n) cw)).setIfInBounds 2 (.int .i64 ack) = endCells st.win aw (l - n) cw ack st.dlv mb st.ow from rfl] at h3
      have h4 := h3.p3.rows_drop n
      rw [Nat.mul_one] at h4
      refine ⟨aw, l - n, cw, vws.drop n, ?_⟩
      rw [HA.out]
      simpa only [endAt, sep_comm, sep_lcomm, sep_assoc] using h4
    · have hack : ackSt st ack = st := by unfold ackSt; rw [if_neg hlt]
      have HA := Lib.hid hack
      clear hack
      go_wp2
      go_meet
      refine ⟨aw, l, cw, vws, ?_⟩
      rw [HA.out]
      have h4 := hS.drew
      simpa only [endAt, sep_comm, sep_lcomm, sep_assoc] using h4
  case rest =>
    clear hS d0 d1 c1 c2 c3 Hll Hol Hvl h2 ha2
    obtain ⟨aw, l, cw, vws, hS⟩ := hcut
    have q1 : (ackSt st ack).dlv = st.dlv := by unfold ackSt; split <;> rfl
    have q2 : (ackSt st ack).held = st.held := by unfold ackSt; split <;> rfl
    generalize hs1 : ackSt st ack = s1 at *
    have HS1 := Lib.hid hs1
    clear hs1
    rw [← q2] at HK
    rw [← q1] at h3 hd1 hd2
    clear q1 q2
    simp only [endAt, sep_assoc] at hS
    have c5 : wc.cell? ⟨p, 5, none⟩ = some (.bool s1.ow) := hS.cell 5
    have f5 : wc.frozen? ⟨p, 5, none⟩ = false := hS.unfrozen 5
    have d0 : wc.cell? ⟨q, 0, none⟩ = some (.int .i64 seq) := hS.p5.imm_cell 0
    go_wp2_with fail
    have hS2 := hS.setCell 5 (.bool true)
    rw [show (endCells s1.win aw l cw s1.ack s1.dlv mb s1.ow).setIfInBounds 5 (.bool true) = endCells s1.win aw l cw s1.ack s1.dlv mb true from rfl] at hS2
    generalize wc.setCell ⟨p, 5, none⟩ (.bool true) = w3 at *
    clear hS c5 f5 d0
    have c4 : w3.cell? ⟨p, 4, none⟩ = some (.map (some mb)) := hS2.cell 4
    have c3 : w3.cell? ⟨p, 3, none⟩ = some (.int .i64 s1.dlv) := hS2.cell 3
    have d0 : w3.cell? ⟨q, 0, none⟩ = some (.int .i64 seq) := hS2.p5.imm_cell 0
    have hlk := run_lookup_imap (P := Try.prog) (T := 83) Try.underlying83 Try.underlying3 zeroBytes hS2.p3.drew seq true
    simp only [if_true] at hlk
    refine wp_region_canon rfl (fun _ => True) [(0, .p), (1, .p), (2, .p), (3, .t), (4, .p), (5, .t), (6, .t), (7, .p), (8, .p), (9, .p), (10, .p), (11, .p)] (by kernel_rfl) ?_
    (repeat (first | (refine C_p (v := ?_) rfl rfl (fun w' => ?_) ?_; rotate_left; (go_simp; with_reducible rfl); simp only [Act.put, List.setIfInBounds_toArray, List.set_cons_zero, List.set_cons_succ]) | (refine C_s (v := ?_) rfl rfl hS0 (fun w' hS => ?_) ?_; rotate_left; ((try dsimp only at hS); go_simp; with_reducible rfl); simp only [Act.put, List.setIfInBounds_toArray, List.set_cons_zero, List.set_cons_succ]) | (refine C_t (v := ?_) rfl rfl ?_ ?_; rotate_left; (go_simp; with_reducible rfl); simp only [Act.put, List.setIfInBounds_toArray, List.set_cons_zero, List.set_cons_succ]) | (refine C_po rfl rfl ?_; simp only [Act.put, List.setIfInBounds_toArray, List.set_cons_zero, List.set_cons_succ]) | (refine C_so rfl rfl hS0 ?_; simp only [Act.put, List.setIfInBounds_toArray, List.set_cons_zero, List.set_cons_succ]) | (refine C_to rfl rfl ?_; simp only [Act.put, List.setIfInBounds_toArray, List.set_cons_zero, List.set_cons_succ])))
    refine C_nil ?_
    clear hlk
    go_wp2_with fail
    go_cut [88] (fun t wx => ∃ x : Bool, t = .bool x ∧ (x = (decide (s1.dlv < seq) && !(f seq).isSome)) ∧ wx.heap = w3.heap ∧ wx.os = w3.os ∧ wx.tape = w3.tape ∧ wx.output = w3.output)
    case first =>
      by_cases h5 : s1.dlv < seq
      · have b1 : decide (s1.dlv < seq) = true := by simp [h5]
        refine wp_region_canon rfl (fun _ => True) [(0, .p), (1, .t), (2, .p), (3, .p), (4, .p), (5, .t), (6, .p), (7, .p), (8, .p), (9, .p), (10, .p)] (by kernel_rfl) ?_
        (repeat (first | (refine C_p (v := ?_) rfl rfl (fun w' => ?_) ?_; rotate_left; (go_simp; with_reducible rfl); simp only [Act.put, List.setIfInBounds_toArray, List.set_cons_zero, List.set_cons_succ]) | (refine C_s (v := ?_) rfl rfl hS0 (fun w' hS => ?_) ?_; rotate_left; ((try dsimp only at hS); go_simp; with_reducible rfl); simp only [Act.put, List.setIfInBounds_toArray, List.set_cons_zero, List.set_cons_succ]) | (refine C_t (v := ?_) rfl rfl ?_ ?_; rotate_left; (go_simp; with_reducible rfl); simp only [Act.put, List.setIfInBounds_toArray, List.set_cons_zero, List.set_cons_succ]) | (refine C_po rfl rfl ?_; simp only [Act.put, List.setIfInBounds_toArray, List.set_cons_zero, List.set_cons_succ]) | (refine C_so rfl rfl hS0 ?_; simp only [Act.put, List.setIfInBounds_toArray, List.set_cons_zero, List.set_cons_succ]) | (refine C_to rfl rfl ?_; simp only [Act.put, List.setIfInBounds_toArray, List.set_cons_zero, List.set_cons_succ])))
        refine C_nil ?_
        go_wp2
        go_meet
        exact ⟨_, rfl, by simp [h5], rfl, rfl, rfl, rfl⟩
      · have b1 : decide (s1.dlv < seq) = false := by simp [h5]
        refine wp_region_canon rfl (fun _ => True) [(0, .p), (1, .t), (2, .p), (3, .p), (4, .p), (5, .t), (6, .p), (7, .p), (8, .p), (9, .p), (10, .p)] (by kernel_rfl) ?_
        (repeat (first | (refine C_p (v := ?_) rfl rfl (fun w' => ?_) ?_; rotate_left; (go_simp; with_reducible rfl); simp only [Act.put, List.setIfInBounds_toArray, List.set_cons_zero, List.set_cons_succ]) | (refine C_s (v := ?_) rfl rfl hS0 (fun w' hS => ?_) ?_; rotate_left; ((try dsimp only at hS); go_simp; with_reducible rfl); simp only [Act.put, List.setIfInBounds_toArray, List.set_cons_zero, List.set_cons_succ]) | (refine C_t (v := ?_) rfl rfl ?_ ?_; rotate_left; (go_simp; with_reducible rfl); simp only [Act.put, List.setIfInBounds_toArray, List.set_cons_zero, List.set_cons_succ]) | (refine C_po rfl rfl ?_; simp only [Act.put, List.setIfInBounds_toArray, List.set_cons_zero, List.set_cons_succ]) | (refine C_so rfl rfl hS0 ?_; simp only [Act.put, List.setIfInBounds_toArray, List.set_cons_zero, List.set_cons_succ]) | (refine C_to rfl rfl ?_; simp only [Act.put, List.setIfInBounds_toArray, List.set_cons_zero, List.set_cons_succ])))
        refine C_nil ?_
        go_wp2
        go_meet
        exact ⟨_, rfl, by simp only [b1, Bool.false_and], rfl, rfl, rfl, rfl⟩
    case rest =>
      obtain ⟨x, rfl, hx, hh1, hh2, hh3, hh4⟩ := hcut
      have HX := Lib.hid hx
      clear hx
      have hS3 := hS2.alike hh1 hh2 hh3 hh4
      clear hS2 c4 c3 d0 hh1 hh2 hh3 hh4
      go_upto_if 88 with (fail)
      go_cut [] (fun wx => ∃ f' nf', Sat W wx (sep (endAt p (holdSt s1 seq bs) aw l cw vws mb f' nf') A))
      case first =>
        have hfs := hS3.p4.held_none seq
        cases x with
        | true =>
          have hb : s1.dlv < seq ∧ s1.held seq = none := by
            have := HX.out
            rw [hfs] at this
            simpa using this.symm
          have hfn : f seq = none := by rw [hb.2] at hfs; simpa using hfs
          have hhold : holdSt s1 seq bs = { s1 with ow := true, held := fset s1.held seq (some bs) } := by unfold holdSt; rw [if_pos hb]
          have HH := Lib.hid hhold
          have HFN := Lib.hid hfn
          clear hfs hfn hhold hb HX
          have c4 : wc.cell? ⟨p, 4, none⟩ = some (.map (some mb)) := hS3.cell 4
          have d0 : wc.cell? ⟨q, 0, none⟩ = some (.int .i64 seq) := hS3.p5.imm_cell 0
          have d2 : wc.cell? ⟨q, 2, none⟩ = some (.slice ab nb cb) := hS3.p5.imm_cell 2
          obtain ⟨ab', cb', e, hwf', hB⟩ := hS3.p6.bytes_open
          obtain ⟨rfl, e5, rfl⟩ := Value.slice.inj e
          clear e e5 hwf' hS3
          go_wp2_with fail
          refine wp_region_canon rfl (fun w' => w'.cell? ⟨p, 4, none⟩ = some (.map (some mb)) ∧ w'.cell? ⟨q, 0, none⟩ = some (.int .i64 seq)) [(0, .p), (1, .p), (2, .p), (3, .s), (4, .p), (5, .s), (6, .p), (7, .t), (8, .e true), (9, .e false)] (by kernel_rfl) ?_
          have hS0 : wc.drew.cell? ⟨p, 4, none⟩ = some (.map (some mb)) ∧ wc.drew.cell? ⟨q, 0, none⟩ = some (.int .i64 seq) := ⟨c4, d0⟩
          (repeat (first | (refine C_p (v := ?_) rfl rfl (fun w' => ?_) ?_; rotate_left; (go_simp; with_reducible rfl); simp only [Act.put, List.setIfInBounds_toArray, List.set_cons_zero, List.set_cons_succ]) | (refine C_s (v := ?_) rfl rfl hS0 (fun w' hS => ?_) ?_; rotate_left; ((try dsimp only at hS); go_simp; with_reducible rfl); simp only [Act.put, List.setIfInBounds_toArray, List.set_cons_zero, List.set_cons_succ]) | (refine C_t (v := ?_) rfl rfl ?_ ?_; rotate_left; (go_simp; with_reducible rfl); simp only [Act.put, List.setIfInBounds_toArray, List.set_cons_zero, List.set_cons_succ]) | (refine C_po rfl rfl ?_; simp only [Act.put, List.setIfInBounds_toArray, List.set_cons_zero, List.set_cons_succ]) | (refine C_so rfl rfl hS0 ?_; simp only [Act.put, List.setIfInBounds_toArray, List.set_cons_zero, List.set_cons_succ]) | (refine C_to rfl rfl ?_; simp only [Act.put, List.setIfInBounds_toArray, List.set_cons_zero, List.set_cons_succ])))
          (refine C_e rfl rfl (fun K hK => ?_); go_simp)
          refine (clone_bytes _ _ _ _ hB.drew (by simp [HNB.out]) hwf (bytes_one _) (by omega)).mono ?_
          rintro e w5 ⟨a', c', rfl, hS4⟩
          have hE := hS4.bytes_of_osl.2
          have hE4 := hE.p2
          have hEq := hE.p7
          (refine hK _ _ (fun _ => ⟨hE4.cell 4, hEq.imm_cell 0⟩) ?_; clear hK K; (try simp only [Act.put, List.setIfInBounds_toArray, List.set_cons_zero, List.set_cons_succ]))
          obtain ⟨w6, hup, hS5⟩ := run_update_new (P := Try.prog) (T := 83) Try.underlying83 Try.underlying3 hE.p5 seq (.slice a' nb c') HFN.out
          (refine C_e rfl rfl (fun K hK => ?_); go_simp)
          (refine hK _ _ (fun h => by cases h) ?_; clear hK K; (try simp only [Act.put, List.setIfInBounds_toArray, List.set_cons_zero, List.set_cons_succ]))
          refine C_nil ?_
          clear hup
          go_wp2
          go_meet
          refine ⟨fset f seq (some (.slice a' nb c')), nf + 1, ?_⟩
          rw [HH.out]
          have h4 := ((hS5.p1.p6.held_set seq).p2.tail).p5.tail
          simpa only [endAt, sep_comm, sep_lcomm, sep_assoc] using h4
        | false =>
          have hb : ¬ (s1.dlv < seq ∧ s1.held seq = none) := by
            have := HX.out
            rw [hfs] at this
            intro hb
            simp [hb.1, hb.2] at this
          have hhold : holdSt s1 seq bs = { s1 with ow := true } := by unfold holdSt; rw [if_neg hb]
          have HH := Lib.hid hhold
          clear hfs hhold hb HX
          go_wp2
          go_meet
          refine ⟨f, nf, ?_⟩
          rw [HH.out]
          have h4 := hS3.p5.tail.p5.tail
          simpa only [endAt, sep_comm, sep_lcomm, sep_assoc] using h4
      case rest =>
        clear hS3 HX
        obtain ⟨f2, nf2, hS⟩ := hcut
        have r1 : (holdSt s1 seq bs).dlv = s1.dlv := rfl
        have r2 : ∀ k, (holdSt s1 seq bs).held k ≠ none → k ≤ 2000000000 := by
          intro k hk
          unfold holdSt at hk
          by_cases hc : s1.dlv < seq ∧ s1.held seq = none
          · simp only [if_pos hc, fset] at hk
            by_cases e : k = seq
            · omega
            · rw [if_neg e] at hk; exact HK.out k hk
          · simp only [if_neg hc] at hk; exact HK.out k hk
        have R2 := Lib.hid r2
        rw [← r1] at hd1 hd2
        clear r1 r2 HK h3
        generalize hst0 : holdSt s1 seq bs = st0 at *
        have HST0 := Lib.hid hst0
        clear hst0
        go_wp2_with fail
        go_loopg [8] nf2 (fun k out wr => InRel W A p st0 k out wr)
        case atStart => exact ⟨none, 0, [], [], st0, aw, l, cw, vws, mb, f2, rfl, rfl, hd1, by omega, by simpa using hd1, R2.out, (hS.rows_nil rBytes 1).osl_nil _ _⟩
        case round =>
          obtain ⟨a, c, vs, outs, s, aw, l, cw, vws, mb, f, rfl, hpre, hd1, hd2, hlen, hkey, hS⟩ := hrel
          have HP := Lib.hid hpre
          have HKEY := Lib.hid hkey
          have HLEN := Lib.hid hlen
          clear hpre hkey hlen
          simp only [endAt, sep_assoc] at hS
          have c4 : wr.cell? ⟨p, 4, none⟩ = some (.map (some mb)) := hS.p2.cell 4
          have c3 : wr.cell? ⟨p, 3, none⟩ = some (.int .i64 s.dlv) := hS.p2.cell 3
          have e1 : IntKind.i64.wrap (s.dlv + 1) = s.dlv + 1 := IntWalk.i64_in _ (by omega)
          have hlk := run_lookup_imap (P := Try.prog) (T := 83) Try.underlying83 Try.underlying3 zeroBytes hS.p5.drew (s.dlv + 1) true
          have hfs := hS.p6.held_none (s.dlv + 1)
          simp only [if_true] at hlk
          cases hh : s.held (s.dlv + 1) with
          | none =>
            have hfn : f (s.dlv + 1) = none := by rw [hh] at hfs; simpa using hfs
            rw [hfn] at hlk
            have HH := Lib.hid hh
            clear hfs hfn hh
            go_wp2_with fail
            refine wp_region_canon rfl (fun _ => True) [(0, .p), (1, .p), (2, .p), (3, .t), (4, .p), (5, .p), (6, .p), (7, .t), (8, .p), (9, .t), (10, .p), (11, .p), (12, .p), (13, .p), (14, .p)] (by kernel_rfl) ?_
            (repeat (first | (refine C_p (v := ?_) rfl rfl (fun w' => ?_) ?_; rotate_left; (go_simp; with_reducible rfl); simp only [Act.put, List.setIfInBounds_toArray, List.set_cons_zero, List.set_cons_succ]) | (refine C_s (v := ?_) rfl rfl hS0 (fun w' hS => ?_) ?_; rotate_left; ((try dsimp only at hS); go_simp; with_reducible rfl); simp only [Act.put, List.setIfInBounds_toArray, List.set_cons_zero, List.set_cons_succ]) | (refine C_t (v := ?_) rfl rfl ?_ ?_; rotate_left; (go_simp; with_reducible rfl); simp only [Act.put, List.setIfInBounds_toArray, List.set_cons_zero, List.set_cons_succ]) | (refine C_po rfl rfl ?_; simp only [Act.put, List.setIfInBounds_toArray, List.set_cons_zero, List.set_cons_succ]) | (refine C_so rfl rfl hS0 ?_; simp only [Act.put, List.setIfInBounds_toArray, List.set_cons_zero, List.set_cons_succ]) | (refine C_to rfl rfl ?_; simp only [Act.put, List.setIfInBounds_toArray, List.set_cons_zero, List.set_cons_succ])))
            refine C_nil ?_
            go_wp2
            go_ret
            refine ⟨a, c, vs, outs, s, rfl, by rw [HS1.out, HST0.out]; exact HP.out, HH.out, ?_⟩
            have h5 : Sat W wr.drew (sep (endAt p s aw l cw vws mb f gk) (sep (osl 31 1 a outs.length c vs) (sep ((rBytes.rows 1).is vs outs) A))) := by
              have := hS.drew
              simpa only [endAt, sep_comm, sep_lcomm, sep_assoc] using this
            simpa only [sep_comm, sep_lcomm, sep_assoc] using isEnd_mk h5
          | some b =>
            obtain ⟨v, hf, hB⟩ := hS.p6.held_some (s.dlv + 1) b hh
            obtain ⟨ab2, cb2, rfl, hwf2, _⟩ := hB.bytes_open
            rw [hf] at hlk
            have hk2 : s.dlv + 1 ≤ 2000000000 := HKEY.out _ (by rw [hh]; simp)
            have HF := Lib.hid hf
            have HH := Lib.hid hh
            clear hfs hf hh hwf2 hS
            go_wp2_with fail
            refine wp_region_canon rfl (fun _ => True) [(0, .p), (1, .p), (2, .p), (3, .t), (4, .p), (5, .p), (6, .p), (7, .t), (8, .p), (9, .t), (10, .p), (11, .p), (12, .p), (13, .p), (14, .p)] (by kernel_rfl) ?_
            (repeat (first | (refine C_p (v := ?_) rfl rfl (fun w' => ?_) ?_; rotate_left; (go_simp; with_reducible rfl); simp only [Act.put, List.setIfInBounds_toArray, List.set_cons_zero, List.set_cons_succ]) | (refine C_s (v := ?_) rfl rfl hS0 (fun w' hS => ?_) ?_; rotate_left; ((try dsimp only at hS); go_simp; with_reducible rfl); simp only [Act.put, List.setIfInBounds_toArray, List.set_cons_zero, List.set_cons_succ]) | (refine C_t (v := ?_) rfl rfl ?_ ?_; rotate_left; (go_simp; with_reducible rfl); simp only [Act.put, List.setIfInBounds_toArray, List.set_cons_zero, List.set_cons_succ]) | (refine C_po rfl rfl ?_; simp only [Act.put, List.setIfInBounds_toArray, List.set_cons_zero, List.set_cons_succ]) | (refine C_so rfl rfl hS0 ?_; simp only [Act.put, List.setIfInBounds_toArray, List.set_cons_zero, List.set_cons_succ]) | (refine C_to rfl rfl ?_; simp only [Act.put, List.setIfInBounds_toArray, List.set_cons_zero, List.set_cons_succ])))
            refine C_nil ?_
            clear hlk e1
            have f3 : wr.frozen? ⟨p, 3, none⟩ = false := hB.p4.unfrozen 3
            go_wp2_with fail
            have e2 : IntKind.i64.wrap (s.dlv + 1) = s.dlv + 1 := IntWalk.i64_in _ (by omega)
            have hS6 := (hB.p4.setCell 3 (.int .i64 (s.dlv + 1))).drew
            rw [show (endCells s.win aw l cw s.ack s.dlv mb s.ow).setIfInBounds 3 (.int .i64 (s.dlv + 1)) = endCells s.win aw l cw s.ack (s.dlv + 1) mb s.ow from rfl] at hS6
            generalize (wr.setCell ⟨p, 3, none⟩ (.int .i64 (s.dlv + 1))).drew = w6 at *
            clear c3 c4 f3 e2 hB
            have c4 : w6.cell? ⟨p, 4, none⟩ = some (.map (some mb)) := hS6.cell 4
            have c3 : w6.cell? ⟨p, 3, none⟩ = some (.int .i64 (s.dlv + 1)) := hS6.cell 3
            obtain ⟨w7, hdel, hS7⟩ := run_delete_old (P := Try.prog) (T := 83) (ty := 0) (u := 3) Try.underlying83 Try.underlying3 hS6.p7.drew (s.dlv + 1) (by rw [HF.out]; rfl)
            refine wp_region_canon rfl (fun _ => True) [(0, .p), (1, .p), (2, .p), (3, .t), (4, .p), (5, .p), (6, .p), (7, .t), (8, .e false)] (by kernel_rfl) ?_
            (repeat (first | (refine C_p (v := ?_) rfl rfl (fun w' => ?_) ?_; rotate_left; (go_simp; with_reducible rfl); simp only [Act.put, List.setIfInBounds_toArray, List.set_cons_zero, List.set_cons_succ]) | (refine C_s (v := ?_) rfl rfl hS0 (fun w' hS => ?_) ?_; rotate_left; ((try dsimp only at hS); go_simp; with_reducible rfl); simp only [Act.put, List.setIfInBounds_toArray, List.set_cons_zero, List.set_cons_succ]) | (refine C_t (v := ?_) rfl rfl ?_ ?_; rotate_left; (go_simp; with_reducible rfl); simp only [Act.put, List.setIfInBounds_toArray, List.set_cons_zero, List.set_cons_succ]) | (refine C_po rfl rfl ?_; simp only [Act.put, List.setIfInBounds_toArray, List.set_cons_zero, List.set_cons_succ]) | (refine C_so rfl rfl hS0 ?_; simp only [Act.put, List.setIfInBounds_toArray, List.set_cons_zero, List.set_cons_succ]) | (refine C_to rfl rfl ?_; simp only [Act.put, List.setIfInBounds_toArray, List.set_cons_zero, List.set_cons_succ])))
            (refine C_e rfl rfl (fun K hK => ?_); go_simp)
            (refine hK _ _ (fun h => by cases h) ?_; clear hK K; (try simp only [Act.put, List.setIfInBounds_toArray, List.set_cons_zero, List.set_cons_succ]))
            refine C_nil ?_
            clear hdel c3 c4
            have hpos : 0 < gk := hS6.p7.imap_pos (s.dlv + 1) (by rw [HF.out]; rfl)
            have HPOS := Lib.hid hpos
            have hA := hS7.p4.alloc0 (.cells #[.slice ab2 b.length cb2] 31)
            have hol : outs.length ≤ 2000000000 := by have := HLEN.out; omega
            clear hS6 hpos
            go_wp2_with (at_builtin; refine wpl_append_osl rfl (.tmp 129) (.tmp 131) 42 rfl 31 1 24 (.slice none 0 0) Try.underlying42 infoBytes rfl rfl hA rfl [.slice ab2 b.length cb2] rfl (by simp) (by intro b hb; cases hb; exact new_src _ [_] _) (by simp [Value.oneCell']) (by omega) (by unfold maxLen; omega) ?_)
            intro a2 c2 w8 hS8
            clear hA hS7
            go_wp2
            go_roundg (gk - 1)
            case measure => have := HPOS.out; omega
            case rel =>
              refine ⟨a2, c2, vs ++ [.slice ab2 b.length cb2], outs ++ [b], advSt s, aw, l, cw, vws, mb, fset f (s.dlv + 1) none, by simp, HP.out.snoc HH.out, by show 0 ≤ s.dlv + 1; omega, hk2, ?_, ?_, ?_⟩
              · have := HLEN.out; show ((outs ++ [b]).length : Int) ≤ s.dlv + 1; simp; omega
              · intro k hk
                refine HKEY.out k ?_
                intro e
                apply hk
                show fset s.held (s.dlv + 1) none k = none
                unfold fset; split
                · rfl
                · exact e
              · have h4 := ((hS8.p3.p5.snoc rfl).p4.held_del (s.dlv + 1))
                rw [List.length_append, List.length_singleton]
                simpa only [endAt, advSt, sep_comm, sep_lcomm, sep_assoc] using h4
end Go.Proofs.Ytnmkdidhilekiaa
