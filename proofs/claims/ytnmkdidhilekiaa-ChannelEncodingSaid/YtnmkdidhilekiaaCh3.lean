/- Package channel: Out. -/
import Derived.Test.YtnmkdidhilekiaaCh2
import Derived.LoopTactic
namespace Go.Proofs.Ytnmkdidhilekiaa
open Go.RowKit PA
theorem infoPacket : (Try.prog.info? 44).map (fun i => (i.zero, i.size, i.bytes)) = some (some (.agg #[.int .i64 0, .int .i64 0, .slice none 0 0]), 3, 40) := by kernel_rfl
/-- Byte slices that are owned, one by one. -/
def ownB : List (Value × List UInt8) → Assn
  | [] => emp
  | (v, bs) :: l => sep (ex fun a => ex fun c => sep (fact (v = .slice a bs.length c)) (osl 5 1 a bs.length c (bs.map bv))) (ownB l)
theorem ownB_append (l m : List (Value × List UInt8)) : ownB (l ++ m) = sep (ownB l) (ownB m) := by
  induction l with
  | nil => simp [ownB, emp_sep]
  | cons x l ih => obtain ⟨v, bs⟩ := x; simp only [List.cons_append, ownB, ih, sep_assoc]
def pkCells (a d : Int) : List Value → List Value
  | [] => []
  | v :: l => .int .i64 (a + 1) :: .int .i64 d :: v :: pkCells (a + 1) d l
theorem pkCells_snoc (a d : Int) (l : List Value) (v : Value) : pkCells a d (l ++ [v]) = pkCells a d l ++ [.int .i64 (a + l.length + 1), .int .i64 d, v] := by
  induction l generalizing a with
  | nil => simp [pkCells]
  | cons x l ih => simp only [List.cons_append, pkCells, ih, List.length_cons]; rw [show a + 1 + (l.length : Int) + 1 = a + ((l.length + 1 : Nat) : Int) + 1 by omega]
theorem _root_.PA.Sat.ownB_one {W w : World} {A : Assn} {a : Option Addr} {c : Nat} {bs : List UInt8} (h : Sat W w (sep (osl 5 1 a bs.length c (bs.map bv)) A)) : Sat W w (sep (ownB [(.slice a bs.length c, bs)]) A) := by
  simp only [ownB, sep_emp, ex_sep, Sat.ex, sep_assoc]
  exact ⟨a, c, Sat.fact.2 ⟨rfl, h⟩⟩
theorem zip_snoc {α β : Type} (vs : List α) (v : α) (l : List β) (k : Nat) (h : vs.length = k) (hk : k < l.length) : (vs ++ [v]).zip (l.take (k + 1)) = vs.zip (l.take k) ++ [(v, l[k])] := by
  rw [List.take_succ_eq_append_getElem hk, List.zip_append (by rw [h, List.length_take]; omega)]; rfl
def outN (st : AEnd) (n : Nat) : Nat := if n = 0 ∧ st.ow = true then 1 else n
def outCells (st : AEnd) (n : Nat) (vs : List Value) : List Value := if n = 0 ∧ st.ow = true then [.int .i64 0, .int .i64 st.dlv, .slice none 0 0] else pkCells st.ack st.dlv vs
def OutRel (W : World) (A : Assn) (p : Nat) (st : AEnd) (aw : Option Addr) (l cw : Nat) (vws : List Value) (mb : Nat) (f : Int → Option Value) (nf n : Nat) (v i : Value) (wr : World) : Prop :=
  ∃ (k : Nat) (a : Option Addr) (c : Nat) (vs : List Value), k ≤ n ∧ i = .int .i64 k ∧ v = .slice a k c ∧ vs.length = k ∧
    Sat W wr (sep (osl 44 3 a k c (pkCells st.ack st.dlv vs)) (sep (ownB (vs.zip (st.wait.take k))) (sep (endAt p st aw l cw vws mb f nf) A)))
set_option maxHeartbeats 4000000 in
theorem out_spec {W w : World} {A : Assn} (p : Nat) (st : AEnd) (h : Sat W w (sep (isEnd p st) A)) (hw1 : 1 ≤ st.win) (hw2 : st.win ≤ 16) (n : Nat) (hn : (n : Int) = min (st.wait.length : Int) st.win) (ha1 : 0 ≤ st.ack) (ha2 : st.ack ≤ 1000000000) (hbl : ∀ b ∈ st.wait, b.length ≤ 65536) :
    Calls Try.prog 15 #[.pointer (some ⟨p, 0, none⟩)] w fun e w' => ∃ a c vs, e = .returned (.slice a (outN st n) c) ∧ vs.length = n ∧
      Sat W w' (sep (osl 44 3 a (outN st n) c (outCells st n vs)) (sep (ownB (vs.zip (st.wait.take n))) (sep (isEnd p { st with ow := false }) A))) := by
  obtain ⟨aw, l, cw, vws, mb, f, nf, h⟩ := isEnd_open h
  have h0 := h
  simp only [endAt, sep_assoc] at h
  have hvl := h.p2.rows_len
  have hol := h.p1.osl_len
  have hll : l = st.wait.length := by omega
  have c0 : w.cell? ⟨p, 0, none⟩ = some (.int .i64 st.win) := h.cell 0
  have c1 : w.cell? ⟨p, 1, none⟩ = some (.slice aw l cw) := h.cell 1
  have g1 : l ≤ cw := hol.2.1
  have g2 : (cw : Int) ≤ 9223372036854775807 := by have := hol.2.2; unfold maxLen at this; omega
  rw [← hll] at hn
  have hmn : (if st.win < (l : Int) then st.win else (l : Int)) = (n : Int) := by split <;> omega
  have g3 : n ≤ l := by omega
  have g4 : n ≤ cw := by omega
  have g5 : n ≤ 16 := by omega
  have HBL := Lib.hid hbl
  clear hbl
  have Hll := Lib.hid hll
  have Hol := Lib.hid hol
  have Hvl := Lib.hid hvl
  clear hn hll hol hvl g1
  go_enter Try.func15, Try.ntmps15
  go_wp2
  refine wp_region_canon rfl (fun _ => True) [(0, .p), (1, .p), (2, .p), (3, .t), (4, .p), (5, .p), (6, .p), (7, .t), (8, .p), (9, .p), (10, .p), (11, .p), (12, .t), (13, .p), (14, .p), (15, .p), (16, .p)] (by kernel_rfl) ?_
  have hS0 : True := trivial
  (repeat (first | (refine C_p (v := ?_) rfl rfl (fun w' => ?_) ?_; rotate_left; (go_simp; with_reducible rfl); simp only [Act.put, List.setIfInBounds_toArray, List.set_cons_zero, List.set_cons_succ]) | (refine C_s (v := ?_) rfl rfl hS0 (fun w' hS => ?_) ?_; rotate_left; ((try dsimp only at hS); go_simp; with_reducible rfl); simp only [Act.put, List.setIfInBounds_toArray, List.set_cons_zero, List.set_cons_succ]) | (refine C_t (v := ?_) rfl rfl ?_ ?_; rotate_left; (go_simp; with_reducible rfl); simp only [Act.put, List.setIfInBounds_toArray, List.set_cons_zero, List.set_cons_succ]) | (refine C_po rfl rfl ?_; simp only [Act.put, List.setIfInBounds_toArray, List.set_cons_zero, List.set_cons_succ]) | (refine C_so rfl rfl hS0 ?_; simp only [Act.put, List.setIfInBounds_toArray, List.set_cons_zero, List.set_cons_succ]) | (refine C_to rfl rfl ?_; simp only [Act.put, List.setIfInBounds_toArray, List.set_cons_zero, List.set_cons_succ])))
  refine C_nil ?_
  clear hmn c0 c1
  go_wp2
  go_loopw [3, 22] (OutRel W A p st aw l cw vws mb f nf n) (fun _ i _ => n - (intOf i).toNat)
  case atStart => exact ⟨0, none, 0, [], Nat.zero_le _, rfl, rfl, rfl, by simpa [pkCells, ownB, emp_sep] using (h0.drew.osl_nil _ _)⟩
  case round =>
    obtain ⟨k, a, c, vs, hk, rfl, rfl, hvs, hS⟩ := hrel
    have hS' := hS
    simp only [endAt, sep_assoc] at hS
    clear h h0
    by_cases hlt : k < n
    · have hkl : k < st.wait.length := by have := Hll.out; omega
      obtain ⟨g, rfl, hc⟩ := hS.p3.osl_at (by intro e; have := Hvl.out; rw [e] at this; simp at this; omega)
      obtain ⟨cv, hcv1, hcv2, hB⟩ := hS.p4.rows_get k hkl
      obtain ⟨vk, rfl⟩ : ∃ vk, cv = [vk] := by match cv, hcv1 with | [x], _ => exact ⟨x, rfl⟩
      obtain ⟨ak, ck, rfl, hwf, hB⟩ := hB.bytes_open
      have cg := hc k _ (by have := hcv2 0 (by omega); simpa using this)
      have c2 : wr.cell? ⟨p, 2, none⟩ = some (.int .i64 st.ack) := hS.p2.cell 2
      have c3 : wr.cell? ⟨p, 3, none⟩ = some (.int .i64 st.dlv) := hS.p2.cell 3
      clear hS hS' hc hcv2 hcv1
      go_wp2
      refine wp_region_canon rfl (fun w' => w'.cell? ⟨p, 2, none⟩ = some (.int .i64 st.ack) ∧ w'.cell? ⟨p, 3, none⟩ = some (.int .i64 st.dlv)) [(0, .p), (1, .p), (2, .p), (3, .p), (4, .s), (5, .p), (6, .p), (7, .p), (8, .p), (9, .p), (10, .p), (11, .s), (12, .p), (13, .e true), (14, .p), (15, .e false), (16, .e false), (17, .p)] (by kernel_rfl) ?_
      have hS0 : wr.drew.cell? ⟨p, 2, none⟩ = some (.int .i64 st.ack) ∧ wr.drew.cell? ⟨p, 3, none⟩ = some (.int .i64 st.dlv) := ⟨c2, c3⟩
      have k16 : (k : Int) < 16 := by omega
      have e1 : IntKind.i64.wrap (st.ack + (k : Int)) = st.ack + k := IntWalk.i64_in _ (by omega)
      have e2 : IntKind.i64.wrap (st.ack + (k : Int) + 1) = st.ack + k + 1 := IntWalk.i64_in _ (by omega)
      (repeat (first | (refine C_p (v := ?_) rfl rfl (fun w' => ?_) ?_; rotate_left; (go_simp; with_reducible rfl); simp only [Act.put, List.setIfInBounds_toArray, List.set_cons_zero, List.set_cons_succ]) | (refine C_s (v := ?_) rfl rfl hS0 (fun w' hS => ?_) ?_; rotate_left; ((try dsimp only at hS); go_simp; with_reducible rfl); simp only [Act.put, List.setIfInBounds_toArray, List.set_cons_zero, List.set_cons_succ]) | (refine C_t (v := ?_) rfl rfl ?_ ?_; rotate_left; (go_simp; with_reducible rfl); simp only [Act.put, List.setIfInBounds_toArray, List.set_cons_zero, List.set_cons_succ]) | (refine C_po rfl rfl ?_; simp only [Act.put, List.setIfInBounds_toArray, List.set_cons_zero, List.set_cons_succ]) | (refine C_so rfl rfl hS0 ?_; simp only [Act.put, List.setIfInBounds_toArray, List.set_cons_zero, List.set_cons_succ]) | (refine C_to rfl rfl ?_; simp only [Act.put, List.setIfInBounds_toArray, List.set_cons_zero, List.set_cons_succ])))
      clear e1 e2
      (refine C_e rfl rfl (fun K hK => ?_); go_simp)
      refine (clone_bytes _ _ _ _ hB.drew (by simp) hwf (bytes_one _) (by have := HBL.out _ (List.getElem_mem hkl); omega)).mono ?_
      rintro e w1 ⟨a', c', rfl, hS1⟩
      have hE := hS1.p5
      clear hB hS0 c2 c3
      (refine hK _ _ (fun _ => ⟨hE.cell 2, hE.cell 3⟩) ?_; clear hK K; (try simp only [Act.put, List.setIfInBounds_toArray, List.set_cons_zero, List.set_cons_succ]))
      (repeat (first | (refine C_p (v := ?_) rfl rfl (fun w' => ?_) ?_; rotate_left; (go_simp; with_reducible rfl); simp only [Act.put, List.setIfInBounds_toArray, List.set_cons_zero, List.set_cons_succ]) | (refine C_s (v := ?_) rfl rfl hS0 (fun w' hS => ?_) ?_; rotate_left; ((try dsimp only at hS); go_simp; with_reducible rfl); simp only [Act.put, List.setIfInBounds_toArray, List.set_cons_zero, List.set_cons_succ]) | (refine C_t (v := ?_) rfl rfl ?_ ?_; rotate_left; (go_simp; with_reducible rfl); simp only [Act.put, List.setIfInBounds_toArray, List.set_cons_zero, List.set_cons_succ]) | (refine C_po rfl rfl ?_; simp only [Act.put, List.setIfInBounds_toArray, List.set_cons_zero, List.set_cons_succ]) | (refine C_so rfl rfl hS0 ?_; simp only [Act.put, List.setIfInBounds_toArray, List.set_cons_zero, List.set_cons_succ]) | (refine C_to rfl rfl ?_; simp only [Act.put, List.setIfInBounds_toArray, List.set_cons_zero, List.set_cons_succ])))
      (refine C_e rfl rfl (fun K hK => ?_); go_simp)
      (refine hK _ _ (fun h => by cases h) ?_; clear hK K; (try simp only [Act.put, List.setIfInBounds_toArray, List.set_cons_zero, List.set_cons_succ]))
      refine C_e rfl rfl (fun K hK => ?_)
      refine wp_append_osl (.tmp 27) (.tmp 42) 35 rfl 44 3 40 _ Try.underlying35 infoPacket rfl rfl (hE.alloc0 _).p4 rfl [.int .i64 (st.ack + k + 1), .int .i64 st.dlv, .slice a' st.wait[k].length c'] rfl (by simp) (by intro b hb; cases hb; exact new_src _ _ _) (by simp [Value.oneCell']) (by omega) (by unfold maxLen; omega) ?_
      intro a2 c2 w2 hS2
      (refine hK _ _ (fun h => by cases h) ?_; clear hK K; (try simp only [Act.put, List.setIfInBounds_toArray, List.set_cons_zero, List.set_cons_succ]))
      (repeat (first | (refine C_p (v := ?_) rfl rfl (fun w' => ?_) ?_; rotate_left; (go_simp; with_reducible rfl); simp only [Act.put, List.setIfInBounds_toArray, List.set_cons_zero, List.set_cons_succ]) | (refine C_s (v := ?_) rfl rfl hS0 (fun w' hS => ?_) ?_; rotate_left; ((try dsimp only at hS); go_simp; with_reducible rfl); simp only [Act.put, List.setIfInBounds_toArray, List.set_cons_zero, List.set_cons_succ]) | (refine C_t (v := ?_) rfl rfl ?_ ?_; rotate_left; (go_simp; with_reducible rfl); simp only [Act.put, List.setIfInBounds_toArray, List.set_cons_zero, List.set_cons_succ]) | (refine C_po rfl rfl ?_; simp only [Act.put, List.setIfInBounds_toArray, List.set_cons_zero, List.set_cons_succ]) | (refine C_so rfl rfl hS0 ?_; simp only [Act.put, List.setIfInBounds_toArray, List.set_cons_zero, List.set_cons_succ]) | (refine C_to rfl rfl ?_; simp only [Act.put, List.setIfInBounds_toArray, List.set_cons_zero, List.set_cons_succ])))
      refine C_nil ?_
      clear hE hS1 cg
      go_wp2
      go_roundw
      case rel =>
        refine ⟨k + 1, a2, c2, vs ++ [.slice a' st.wait[k].length c'], by omega, by go_num, rfl, by simp [hvs], ?_⟩
        rw [pkCells_snoc, hvs, zip_snoc _ _ _ _ hvs hkl, ownB_append]
        have h4 := hS2.p2.ownB_one.p3.tail
        simpa only [endAt, sep_comm, sep_lcomm, sep_assoc] using h4
      case measure => simp [intOf]; omega
    · have c3 : wr.cell? ⟨p, 3, none⟩ = some (.int .i64 st.dlv) := hS.p2.cell 3
      have c5 : wr.cell? ⟨p, 5, none⟩ = some (.bool st.ow) := hS.p2.cell 5
      have f5 : wr.frozen? ⟨p, 5, none⟩ = false := hS.p2.unfrozen 5
      obtain rfl : k = n := by omega
      clear hS' hk hlt
      by_cases hn0 : k = 0
      · subst hn0
        obtain rfl := List.eq_nil_of_length_eq_zero hvs
        cases how : st.ow with
        | true =>
          have HOW := Lib.hid how
          rw [how] at c5
          clear how
          have hA := (hS.alloc0 (.cells #[.int .i64 0, .int .i64 st.dlv, .slice none 0 0] 44))
          go_wp2_with (at_builtin; refine wpl_append_osl rfl (.tmp 54) (.tmp 60) 35 rfl 44 3 40 _ Try.underlying35 infoPacket rfl rfl hA rfl [.int .i64 0, .int .i64 st.dlv, .slice none 0 0] rfl (by simp) (by intro b hb; cases hb; exact new_src _ _ _) (by simp [Value.oneCell']) (by omega) (by unfold maxLen; omega) ?_)
          intro a2 c2 w2 hS2
          have c5' : w2.cell? ⟨p, 5, none⟩ = some (.bool st.ow) := hS2.p2.cell 5
          have f5' : w2.frozen? ⟨p, 5, none⟩ = false := hS2.p2.unfrozen 5
          clear hA c5 f5 c3
          go_wp2
          go_ret
          have h3 := hS2.p2.setCell 5 (.bool false)
          refine ⟨a2, c2, [], by simp [outN, HOW.out], rfl, ?_⟩
          rw [show (endCells st.win aw l cw st.ack st.dlv mb st.ow).setIfInBounds 5 (.bool false) = endCells st.win aw l cw st.ack st.dlv mb false from rfl] at h3
          have h4 : Sat W (w2.setCell ⟨p, 5, none⟩ (.bool false)) (sep (endAt p { st with ow := false } aw l cw vws mb f nf) (sep (osl 44 3 a2 (outN st 0) c2 (outCells st 0 [])) (sep (ownB []) A))) := by
            rw [show outN st 0 = 1 by simp [outN, HOW.out], show outCells st 0 [] = [.int .i64 0, .int .i64 st.dlv, .slice none 0 0] by simp [outCells, HOW.out]]
            simpa only [endAt, pkCells, List.nil_append, List.zip_nil_left, Nat.zero_add, sep_comm, sep_lcomm, sep_assoc] using h3
          have h5 := isEnd_mk h4
          simpa only [List.zip_nil_left, sep_comm, sep_lcomm, sep_assoc] using h5
        | false =>
          have HOW := Lib.hid how
          rw [how] at c5
          clear how
          go_wp2
          go_ret
          have h3 := hS.p2.setCell 5 (.bool false)
          refine ⟨a, c, [], by simp [outN, HOW.out], rfl, ?_⟩
          rw [show (endCells st.win aw l cw st.ack st.dlv mb st.ow).setIfInBounds 5 (.bool false) = endCells st.win aw l cw st.ack st.dlv mb false from rfl] at h3
          have h4 : Sat W (wr.setCell ⟨p, 5, none⟩ (.bool false)) (sep (endAt p { st with ow := false } aw l cw vws mb f nf) (sep (osl 44 3 a (outN st 0) c (outCells st 0 [])) (sep (ownB []) A))) := by
            rw [show outN st 0 = 0 by simp [outN, HOW.out], show outCells st 0 [] = [] by simp [outCells, HOW.out, pkCells]]
            simpa only [endAt, pkCells, List.zip_nil_left, sep_comm, sep_lcomm, sep_assoc] using h3
          have h5 := isEnd_mk h4
          simpa only [List.zip_nil_left, sep_comm, sep_lcomm, sep_assoc] using h5
      · have hk1 : ((k : Int) == 0) = false := by simp; omega
        go_wp2
        go_ret
        have h3 := hS.p2.setCell 5 (.bool false)
        refine ⟨a, c, vs, by simp [outN, hn0], hvs, ?_⟩
        rw [show (endCells st.win aw l cw st.ack st.dlv mb st.ow).setIfInBounds 5 (.bool false) = endCells st.win aw l cw st.ack st.dlv mb false from rfl] at h3
        have h4 : Sat W (wr.setCell ⟨p, 5, none⟩ (.bool false)) (sep (endAt p { st with ow := false } aw l cw vws mb f nf) (sep (osl 44 3 a (outN st k) c (outCells st k vs)) (sep (ownB (vs.zip (st.wait.take k))) A))) := by
          rw [show outN st k = k by simp [outN, hn0], show outCells st k vs = pkCells st.ack st.dlv vs by simp [outCells, hn0]]
          simpa only [endAt, sep_comm, sep_lcomm, sep_assoc] using h3
        have h5 := isEnd_mk h4
        simpa only [sep_comm, sep_lcomm, sep_assoc] using h5
end Go.Proofs.Ytnmkdidhilekiaa
