/- Package channel: the slices' Clone and Delete, Send, Waiting. -/
import Derived.Test.YtnmkdidhilekiaaRows
import Derived.Test.YtnmkdidhilekiaaVal
import Derived.BigQuiet
import Derived.Deep.QuietTactic
namespace Go.Proofs.Ytnmkdidhilekiaa
open Go.RowKit PA

theorem infoU8 : (Try.prog.info? 5).map (fun i => (i.zero, i.size, i.bytes)) = some (some (.int .u8 0), 1, 1) := by kernel_rfl
theorem infoBytes : (Try.prog.info? 31).map (fun i => (i.zero, i.size, i.bytes)) = some (some (.slice none 0 0), 1, 24) := by kernel_rfl
theorem new_src (w : World) (cs : List Value) (t : TypeId) : ∀ j u, cs[j]? = some u → (w.alloc (.cells cs.toArray t)).cell? ((⟨w.heap.size, 0, none⟩ : Addr).add j) = some u := by
  intro j u h
  have : (⟨w.heap.size, 0, none⟩ : Addr).add j = ⟨w.heap.size, j, none⟩ := by unfold Addr.add; split <;> simp_all
  rw [this, World.cell?_alloc_new]
  simpa using h
theorem old_src {w : World} {b : Addr} {xs : List Value} (h : ∀ j u, xs[j]? = some u → w.cell? (b.add j) = some u) (o : Obj) : ∀ j u, xs[j]? = some u → (w.alloc o).cell? (b.add j) = some u := by
  intro j u hu
  have := h j u hu
  rw [World.cell?_alloc_lt w o _ (World.block_lt_of_cell? w _ this)]
  exact this
set_option maxHeartbeats 400000 in
theorem clone_bytes {W w : World} {A : Assn} (a : Option Addr) (n c : Nat) (xs : List Value) (h : Sat W w (sep (rsl a xs) A)) (hl : xs.length = n) (hw : Swf a n c) (h1 : ∀ u ∈ xs, u.oneCell' = true) (hn : n ≤ 140737488355328) :
    Calls Try.prog 42 #[.slice a n c] w fun e w' => ∃ a' c', e = .returned (.slice a' n c') ∧ Sat W w' (sep (osl 5 1 a' n c' xs) A) := by
  obtain ⟨hw1, hw2, hw3⟩ := hw
  have hq := fun w a n c => Lib.run_eql_slice_nil (P := Try.prog) w 31 5 a n c 0 0 Try.underlying31
  cases a with
  | none =>
    obtain rfl := hw3 rfl
    obtain rfl : n = 0 := by omega
    obtain rfl : xs = [] := List.eq_nil_of_length_eq_zero hl
    go_enter Try.func42, Try.ntmps42
    go_wp2
    go_ret
    exact ⟨_, _, rfl, h.tail.osl_nil _ _⟩
  | some b =>
    have hS := (h.tail.alloc (.cells #[] 5)).osl_mk 0 0 1 [] rfl (by omega) (by unfold maxLen; omega) rfl rfl
    have hc2 := old_src h.rsl_src (.cells #[] 5)
    go_enter Try.func42, Try.ntmps42
    go_wp2_with (at_builtin; refine wpl_append_osl rfl _ _ 31 rfl 5 1 1 (.int .u8 0) Try.underlying31 infoU8 rfl rfl hS rfl xs (by omega) (by simp) (by intro b' hb; cases hb; exact hc2) h1 (by omega) (by omega) ?_)
    intro a' c' w' hS'
    go_wp2
    go_ret
    exact ⟨_, _, rfl, by simpa using hS'⟩
/-- An end, in plain. -/
structure AEnd where
  win : Int
  wait : List (List UInt8)
  ack : Int
  dlv : Int
  held : Int → Option (List UInt8)
  ow : Bool
def heldRel (f : Int → Option Value) (g : Int → Option (List UInt8)) (I : Mem) : Prop := ∀ k, match f k, g k with
  | none, none => True
  | some v, some bs => rBytes.rel I [v] bs
  | _, _ => False
theorem heldRel.mono {f : Int → Option Value} {g : Int → Option (List UInt8)} (I J : Mem) (hl : Mem.le I J) (h : heldRel f g I) : heldRel f g J := by
  intro k
  have := h k
  revert this
  cases f k <;> cases g k <;> simp only [imp_self]
  exact fun h => rBytes.mono hl h
def isHeld (f : Int → Option Value) (g : Int → Option (List UInt8)) : Assn := pers (heldRel f g) heldRel.mono
def endCells (win : Int) (aw : Option Addr) (l cw : Nat) (ack dlv : Int) (mb : Nat) (ow : Bool) : Array Value := #[.int .i64 win, .slice aw l cw, .int .i64 ack, .int .i64 dlv, .map (some mb), .bool ow]
def endAt (p : Nat) (st : AEnd) (aw : Option Addr) (l cw : Nat) (vws : List Value) (mb : Nat) (f : Int → Option Value) (n : Nat) : Assn :=
  sep (blk p (.cells (endCells st.win aw l cw st.ack st.dlv mb st.ow) 85)) (sep (osl 31 1 aw l cw vws) (sep ((rBytes.rows 1).is vws st.wait) (sep (imap mb f n) (isHeld f st.held))))
def isEnd (p : Nat) (st : AEnd) : Assn := ex fun aw => ex fun l => ex fun cw => ex fun vws => ex fun mb => ex fun f => ex fun n => endAt p st aw l cw vws mb f n
theorem isEnd_open {W w : World} {A : Assn} {p : Nat} {st : AEnd} (h : Sat W w (sep (isEnd p st) A)) : ∃ aw l cw vws mb f n, Sat W w (sep (endAt p st aw l cw vws mb f n) A) := by
  simp only [isEnd, ex_sep, Sat.ex] at h
  exact h
theorem isEnd_mk {W w : World} {A : Assn} {p : Nat} {st : AEnd} {aw : Option Addr} {l cw : Nat} {vws : List Value} {mb : Nat} {f : Int → Option Value} {n : Nat} (h : Sat W w (sep (endAt p st aw l cw vws mb f n) A)) : Sat W w (sep (isEnd p st) A) := by
  simp only [isEnd, ex_sep, Sat.ex]
  exact ⟨_, _, _, _, _, _, _, h⟩
theorem bytes_one (bs : List UInt8) : ∀ u ∈ bs.map bv, u.oneCell' = true := by
  intro u hu
  obtain ⟨b, _, rfl⟩ := List.mem_map.1 hu
  rfl
set_option maxHeartbeats 400000 in
theorem send_ok {W w : World} {A : Assn} (p : Nat) (st : AEnd) (v : Value) (bs : List UInt8) (h : Sat W w (sep (isEnd p st) (sep (rBytes.is [v] bs) A))) (hn : bs.length ≤ 65536) (hl : st.wait.length < 1000) :
    Calls Try.prog 13 #[.pointer (some ⟨p, 0, none⟩), v] w fun e w' => e = .returned (.int .i64 0) ∧ Sat W w' (sep (isEnd p { st with wait := st.wait ++ [bs] }) A) := by
  obtain ⟨aw, l, cw, vws, mb, f, n, h⟩ := isEnd_open h
  simp only [endAt, sep_assoc] at h
  have hvl := h.p2.rows_len
  have hol := h.p1.osl_len
  have hll : l = st.wait.length := by omega
  have c1 : w.cell? ⟨p, 1, none⟩ = some (.slice aw l cw) := h.cell 1
  have f1 : w.frozen? ⟨p, 1, none⟩ = false := h.unfrozen 1
  obtain ⟨ab, cb, rfl, hwf, hb⟩ := h.p5.bytes_open
  obtain ⟨nb, hnb⟩ : ∃ nb, nb = bs.length := ⟨_, rfl⟩
  rw [← hnb] at hn hwf ⊢
  have HN := Lib.hid hnb
  have g2 : l < 1000 := by omega
  clear hll hol hnb hvl
  have hB := hb.drew
  go_enter Try.func13, Try.ntmps13
  go_wp2
  refine wp_region_canon rfl (fun w' => w'.cell? ⟨p, 1, none⟩ = some (.slice aw l cw)) [(0, .p), (1, .p), (2, .p), (3, .p), (4, .s), (5, .p), (6, .e true), (7, .e true), (8, .e false), (9, .p), (10, .p), (11, .e false)] (by kernel_rfl) ?_
  have hS0 : w.drew.cell? ⟨p, 1, none⟩ = some (.slice aw l cw) := c1
  (repeat (first | (refine C_p (v := ?_) rfl rfl (fun w' => ?_) ?_; rotate_left; (go_simp; with_reducible rfl); simp only [Act.put, List.setIfInBounds_toArray, List.set_cons_zero, List.set_cons_succ]) | (refine C_s (v := ?_) rfl rfl hS0 (fun w' hS => ?_) ?_; rotate_left; ((try dsimp only at hS); go_simp; with_reducible rfl); simp only [Act.put, List.setIfInBounds_toArray, List.set_cons_zero, List.set_cons_succ]) | (refine C_t (v := ?_) rfl rfl ?_ ?_; rotate_left; (go_simp; with_reducible rfl); simp only [Act.put, List.setIfInBounds_toArray, List.set_cons_zero, List.set_cons_succ]) | (refine C_po rfl rfl ?_; simp only [Act.put, List.setIfInBounds_toArray, List.set_cons_zero, List.set_cons_succ]) | (refine C_so rfl rfl hS0 ?_; simp only [Act.put, List.setIfInBounds_toArray, List.set_cons_zero, List.set_cons_succ]) | (refine C_to rfl rfl ?_; simp only [Act.put, List.setIfInBounds_toArray, List.set_cons_zero, List.set_cons_succ])))
  (refine C_e rfl rfl (fun K hK => ?_); go_simp)
  refine (clone_bytes _ _ _ _ hB (by simp [HN.out]) hwf (bytes_one bs) (by omega)).mono ?_
  rintro e w1 ⟨a', c', rfl, hS1⟩
  have hS2 := hS1.bytes_of_osl.2
  have hE := hS2.p2
  clear hB hb hS1 hS2 c1 hS0 h f1
  (refine hK _ _ (fun _ => hE.cell 1) ?_; clear hK K; (try simp only [Act.put, List.setIfInBounds_toArray, List.set_cons_zero, List.set_cons_succ]))
  have hS0 : w1.cell? ⟨p, 1, none⟩ = some (.slice aw l cw) := hE.cell 1
  (refine C_e rfl rfl (fun K hK => ?_); go_simp)
  (refine hK _ _ (fun _ => (hE.alloc0 _).cell 1) ?_; clear hK K; (try simp only [Act.put, List.setIfInBounds_toArray, List.set_cons_zero, List.set_cons_succ]))
  refine C_e rfl rfl (fun K hK => ?_)
  refine wp_append_osl (.tmp 20) (.tmp 23) 42 rfl 31 1 24 (.slice none 0 0) Try.underlying42 infoBytes rfl rfl (hE.alloc0 _).p3 rfl [.slice a' nb c'] rfl (by simp) (by intro b hb; cases hb; exact new_src _ [_] _) (by simp [Value.oneCell']) (by omega) (by unfold maxLen; omega) ?_
  intro a2 c2 w2 hS2
  have hE2 := hS2.p1
  have e1 : w2.cell? ⟨p, 1, none⟩ = some (.slice aw l cw) := hE2.cell 1
  have e2 : w2.frozen? ⟨p, 1, none⟩ = false := hE2.unfrozen 1
  (refine hK _ _ (fun h => by cases h) ?_; clear hK K; (try simp only [Act.put, List.setIfInBounds_toArray, List.set_cons_zero, List.set_cons_succ]))
  (repeat (first | (refine C_p (v := ?_) rfl rfl (fun w' => ?_) ?_; rotate_left; (go_simp; with_reducible rfl); simp only [Act.put, List.setIfInBounds_toArray, List.set_cons_zero, List.set_cons_succ]) | (refine C_s (v := ?_) rfl rfl hS0 (fun w' hS => ?_) ?_; rotate_left; ((try dsimp only at hS); go_simp; with_reducible rfl); simp only [Act.put, List.setIfInBounds_toArray, List.set_cons_zero, List.set_cons_succ]) | (refine C_t (v := ?_) rfl rfl ?_ ?_; rotate_left; (go_simp; with_reducible rfl); simp only [Act.put, List.setIfInBounds_toArray, List.set_cons_zero, List.set_cons_succ]) | (refine C_po rfl rfl ?_; simp only [Act.put, List.setIfInBounds_toArray, List.set_cons_zero, List.set_cons_succ]) | (refine C_so rfl rfl hS0 ?_; simp only [Act.put, List.setIfInBounds_toArray, List.set_cons_zero, List.set_cons_succ]) | (refine C_to rfl rfl ?_; simp only [Act.put, List.setIfInBounds_toArray, List.set_cons_zero, List.set_cons_succ])))
  (refine C_e rfl rfl (fun K hK => ?_); go_simp)
  (refine hK _ _ (fun h => by cases h) ?_; clear hK K; (try simp only [Act.put, List.setIfInBounds_toArray, List.set_cons_zero, List.set_cons_succ]))
  refine C_nil ?_
  go_wp2
  go_ret
  refine ⟨rfl, ?_⟩
  have h3 := hE2.setCell 1 (.slice a2 (l + 1) c2)
  rw [show (endCells st.win aw l cw st.ack st.dlv mb st.ow).setIfInBounds 1 (.slice a2 (l + 1) c2) = endCells st.win a2 (l + 1) c2 st.ack st.dlv mb st.ow from rfl] at h3
  have h4 := (h3.p2.p4.snoc rfl).p3.tail
  refine isEnd_mk (aw := a2) (l := l + 1) (cw := c2) (mb := mb) (f := f) (n := n) (vws := vws ++ [.slice a' nb c']) ?_
  simpa only [endAt, sep_comm, sep_lcomm, sep_assoc] using h4
end Go.Proofs.Ytnmkdidhilekiaa
