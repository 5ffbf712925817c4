/- Package channel: Copy of an end that holds nothing; Send of bytes that the caller still owns. -/
import Derived.Test.YtnmkdidhilekiaaPro
import Derived.Lib.SliceRun
import Derived.Maps.RangeRun
import Derived.Laws.IdiomRangeMap
import Derived.LoopTactic
namespace Go.Proofs.Ytnmkdidhilekiaa
open Go.RowKit PA
theorem clone_own {W w : World} {A : Assn} (g n c : Nat) (xs : List Value) (h : Sat W w A) (hx : ∀ j u, xs[j]? = some u → w.cell? ((⟨g, 0, none⟩ : Addr).add j) = some u) (hl : xs.length = n) (hw : n ≤ maxLen) (h1 : ∀ u ∈ xs, u.oneCell' = true) (hn : n ≤ 140737488355328) :
    Calls Try.prog 42 #[.slice (some ⟨g, 0, none⟩) n c] w fun e w' => ∃ a' c', e = .returned (.slice a' n c') ∧ Sat W w' (sep (osl 5 1 a' n c' xs) A) := by
  have hq := fun w a n c => Lib.run_eql_slice_nil (P := Try.prog) w 31 5 a n c 0 0 Try.underlying31
  have hS := (h.alloc (.cells #[] 5)).osl_mk 0 0 1 [] rfl (by omega) (by unfold maxLen; omega) rfl rfl
  have hc2 := old_src hx (.cells #[] 5)
  go_enter Try.func42, Try.ntmps42
  go_wp2_with (at_builtin; refine wpl_append_osl rfl _ _ 31 rfl 5 1 1 (.int .u8 0) Try.underlying31 infoU8 rfl rfl hS rfl xs (by omega) (by simp) (by intro b' hb; cases hb; exact hc2) h1 (by omega) (by omega) ?_)
  intro a' c' w' hS'
  go_wp2
  go_ret
  exact ⟨_, _, rfl, by simpa using hS'⟩
theorem clone_bytess {W w : World} {A : Assn} (a : Option Addr) (n c : Nat) (xs : List Value) (h : Sat W w (sep (osl 31 1 a n c xs) A)) (h1 : ∀ u ∈ xs, u.oneCell' = true) (hn : n ≤ 1000) :
    Calls Try.prog 47 #[.slice a n c] w fun e w' => ∃ a' c', e = .returned (.slice a' n c') ∧ Sat W w' (sep (osl 31 1 a' n c' xs) (sep (osl 31 1 a n c xs) A)) := by
  have hq := fun w a n c => Lib.run_eql_slice_nil (P := Try.prog) w 42 31 a n c 0 0 Try.underlying42
  rcases h.osl_cases with ⟨rfl, rfl, rfl, rfl, h0⟩ | ⟨g, cur, rfl, hlen, hlc, hcm, hcs, htake, hS⟩
  · go_enter Try.func47, Try.ntmps47
    go_wp2
    go_ret
    exact ⟨_, _, rfl, h.osl_nil _ _⟩
  · have hx : ∀ j u, xs[j]? = some u → w.cell? ((⟨g, 0, none⟩ : Addr).add j) = some u := by
      intro j u hu
      rw [show ((⟨g, 0, none⟩ : Addr).add j) = ⟨g, j, none⟩ by unfold Addr.add; split <;> simp_all, hS.cell j]
      rw [← htake, List.getElem?_take] at hu
      split at hu
      · simpa using hu
      · cases hu
    have hS2 := (h.alloc (.cells #[] 31)).osl_mk 0 0 1 [] rfl (by omega) (by unfold maxLen; omega) rfl rfl
    have hc2 := old_src hx (.cells #[] 31)
    clear hS htake hcs hx
    go_enter Try.func47, Try.ntmps47
    go_wp2_with (at_builtin; refine wpl_append_osl rfl _ _ 42 rfl 31 1 24 (.slice none 0 0) Try.underlying42 infoBytes rfl rfl hS2 rfl xs (by omega) (by simp) (by intro b' hb; cases hb; exact hc2) h1 (by omega) (by unfold maxLen; omega) ?_)
    intro a' c' w' hS'
    go_wp2
    go_ret
    exact ⟨_, _, rfl, by simpa using hS'⟩
set_option maxHeartbeats 400000 in
set_option maxRecDepth 100000 in
theorem send_own {W w : World} {A : Assn} (p g : Nat) (st : AEnd) (x : UInt8) (h : Sat W w (sep (isEnd p st) (sep (blk g (.cells #[bv x] 5 (0, 0))) A))) (hl : st.wait.length < 1000) :
    Calls Try.prog 13 #[.pointer (some ⟨p, 0, none⟩), .slice (some ⟨g, 0, none⟩) 1 1] w fun e w' => e = .returned (.int .i64 0) ∧ Sat W w' (sep (isEnd p { st with wait := st.wait ++ [[x]] }) (sep (blk g (.cells #[bv x] 5 (0, 0))) A)) := by
  obtain ⟨aw, l, cw, vws, mb, f, n, h⟩ := isEnd_open h
  simp only [endAt, sep_assoc] at h
  have hvl := h.p2.rows_len
  have hol := h.p1.osl_len
  have hll : l = st.wait.length := by omega
  have c1 : w.cell? ⟨p, 1, none⟩ = some (.slice aw l cw) := h.cell 1
  have g2 : l < 1000 := by omega
  clear hll hol hvl
  have hB := h.drew
  have hx : ∀ j u, [bv x][j]? = some u → w.drew.cell? ((⟨g, 0, none⟩ : Addr).add j) = some u := by
    intro j u hu
    rw [show ((⟨g, 0, none⟩ : Addr).add j) = ⟨g, j, none⟩ by unfold Addr.add; split <;> simp_all, hB.p5.cell j]
    simpa using hu
  go_enter Try.func13, Try.ntmps13
  go_wp2
  refine wp_region_canon rfl (fun w' => w'.cell? ⟨p, 1, none⟩ = some (.slice aw l cw)) [(0, .p), (1, .p), (2, .p), (3, .p), (4, .s), (5, .p), (6, .e true), (7, .e true), (8, .e false), (9, .p), (10, .p), (11, .e false)] (by kernel_rfl) ?_
  have hS0 : w.drew.cell? ⟨p, 1, none⟩ = some (.slice aw l cw) := c1
  (repeat (first | (refine C_p (v := ?_) rfl rfl (fun w' => ?_) ?_; rotate_left; (go_simp; with_reducible rfl); simp only [Act.put, List.setIfInBounds_toArray, List.set_cons_zero, List.set_cons_succ]) | (refine C_s (v := ?_) rfl rfl hS0 (fun w' hS => ?_) ?_; rotate_left; ((try dsimp only at hS); go_simp; with_reducible rfl); simp only [Act.put, List.setIfInBounds_toArray, List.set_cons_zero, List.set_cons_succ]) | (refine C_t (v := ?_) rfl rfl ?_ ?_; rotate_left; (go_simp; with_reducible rfl); simp only [Act.put, List.setIfInBounds_toArray, List.set_cons_zero, List.set_cons_succ]) | (refine C_po rfl rfl ?_; simp only [Act.put, List.setIfInBounds_toArray, List.set_cons_zero, List.set_cons_succ]) | (refine C_so rfl rfl hS0 ?_; simp only [Act.put, List.setIfInBounds_toArray, List.set_cons_zero, List.set_cons_succ]) | (refine C_to rfl rfl ?_; simp only [Act.put, List.setIfInBounds_toArray, List.set_cons_zero, List.set_cons_succ])))
  (refine C_e rfl rfl (fun K hK => ?_); go_simp)
  refine (clone_own _ 1 _ _ hB hx rfl (by unfold maxLen; omega) (by intro u hu; simp at hu; subst hu; rfl) (by omega)).mono ?_
  rintro e w1 ⟨a', c', rfl, hS1⟩
  have hS2 := (Sat.bytes_of_osl (bs := [x]) hS1).2
  have hE := hS2.p1
  clear hB hS1 hS2 c1 hS0 h hx
  (refine hK _ _ (fun _ => hE.cell 1) ?_; clear hK K; (try simp only [Act.put, List.setIfInBounds_toArray, List.set_cons_zero, List.set_cons_succ]))
  have hS0 : w1.cell? ⟨p, 1, none⟩ = some (.slice aw l cw) := hE.cell 1
  (refine C_e rfl rfl (fun K hK => ?_); go_simp)
  (refine hK _ _ (fun _ => (hE.alloc0 _).cell 1) ?_; clear hK K; (try simp only [Act.put, List.setIfInBounds_toArray, List.set_cons_zero, List.set_cons_succ]))
  refine C_e rfl rfl (fun K hK => ?_)
  refine wp_append_osl (.tmp 20) (.tmp 23) 42 rfl 31 1 24 (.slice none 0 0) Try.underlying42 infoBytes rfl rfl (hE.alloc0 _).p2 rfl [.slice a' 1 c'] rfl (by simp) (by intro b hb; cases hb; exact new_src _ [_] _) (by simp [Value.oneCell']) (by omega) (by unfold maxLen; omega) ?_
  intro a2 c2 w2 hS2
  have hE2 := hS2.p1
  have e1 : w2.cell? ⟨p, 1, none⟩ = some (.slice aw l cw) := hE2.cell 1
  have e2 : w2.frozen? ⟨p, 1, none⟩ = false := hE2.unfrozen 1
  (refine hK _ _ (fun h => by cases h) ?_; clear hK K; (try simp only [Act.put, List.setIfInBounds_toArray, List.set_cons_zero, List.set_cons_succ]))
  (repeat (first | (refine C_p (v := ?_) rfl rfl (fun w' => ?_) ?_; rotate_left; (go_simp; with_reducible rfl); simp only [Act.put, List.setIfInBounds_toArray, List.set_cons_zero, List.set_cons_succ]) | (refine C_s (v := ?_) rfl rfl hS0 (fun w' hS => ?_) ?_; rotate_left; ((try dsimp only at hS); go_simp; with_reducible rfl); simp only [Act.put, List.setIfInBounds_toArray, List.set_cons_zero, List.set_cons_succ]) | (refine C_t (v := ?_) rfl rfl ?_ ?_; rotate_left; (go_simp; with_reducible rfl); simp only [Act.put, List.setIfInBounds_toArray, List.set_cons_zero, List.set_cons_succ]) | (refine C_po rfl rfl ?_; simp only [Act.put, List.setIfInBounds_toArray, List.set_cons_zero, List.set_cons_succ]) | (refine C_so rfl rfl hS0 ?_; simp only [Act.put, List.setIfInBounds_toArray, List.set_cons_zero, List.set_cons_succ]) | (refine C_to rfl rfl ?_; simp only [Act.put, List.setIfInBounds_toArray, List.set_cons_zero, List.set_cons_succ])))
  (refine C_e rfl rfl (fun K hK => ?_); go_simp)
  (refine hK _ _ (fun h => by cases h) ?_; clear hK K; (try simp only [Act.put, List.setIfInBounds_toArray, List.set_cons_zero, List.set_cons_succ]))
  refine C_nil ?_
  go_wp2
  go_ret
  refine ⟨rfl, ?_⟩
  have h3 := hE2.setCell 1 (.slice a2 (l + 1) c2)
  rw [show (endCells st.win aw l cw st.ack st.dlv mb st.ow).setIfInBounds 1 (.slice a2 (l + 1) c2) = endCells st.win a2 (l + 1) c2 st.ack st.dlv mb st.ow from rfl] at h3
  have h4 := (h3.p2.p3.snoc rfl)
  refine isEnd_mk (aw := a2) (l := l + 1) (cw := c2) (mb := mb) (f := f) (n := n) (vws := vws ++ [.slice a' 1 c']) ?_
  simpa only [endAt, sep_comm, sep_lcomm, sep_assoc] using h4
theorem copy_spec {W w : World} {A : Assn} (p : Nat) (st : AEnd) (h : Sat W w (sep (isEnd p st) A)) (hh : st.held = fun _ => none) (hl : st.wait.length ≤ 1000) :
    Calls Try.prog 26 #[.pointer (some ⟨p, 0, none⟩)] w fun e w' => ∃ q, e = .returned (.pointer (some ⟨q, 0, none⟩)) ∧ Sat W w' (sep (isEnd q st) (sep (isEnd p st) A)) := by
  obtain ⟨aw, l, cw, vws, mb, f, n, h⟩ := isEnd_open h
  simp only [endAt, sep_assoc] at h
  have hvl := h.p2.rows_len
  have hol := h.p1.osl_len
  have hll : l = st.wait.length := by omega
  have g1 : l ≤ 1000 := by omega
  obtain ⟨es, clock, hm, hn, h2⟩ := h.p3.imap_open
  have hf : f = fun _ => none := by
    funext k
    have := h.p4.held_none k
    rw [hh] at this
    simpa using this
  have hes : es = #[] := by
    have : es.toList = [] := by
      cases hE : es.toList with
      | nil => rfl
      | cons e es' =>
        exfalso
        obtain ⟨k, hk⟩ := hm.keys e (by rw [hE]; simp)
        have := hm.get k
        rw [hE, hf] at this
        simp [keyIs, hk] at this
    exact Array.toList_eq_nil_iff.1 this
  subst hes
  have hn0 : n = 0 := by simpa using hn.symm
  subst hn0
  clear hm hn hvl hol hll
  have hB := h2.p1
  have c0 : w.cell? ⟨p, 0, none⟩ = some (.int .i64 st.win) := hB.cell 0
  have c1 : w.cell? ⟨p, 1, none⟩ = some (.slice aw l cw) := hB.cell 1
  have c2 : w.cell? ⟨p, 2, none⟩ = some (.int .i64 st.ack) := hB.cell 2
  have c3 : w.cell? ⟨p, 3, none⟩ = some (.int .i64 st.dlv) := hB.cell 3
  have c4 : w.cell? ⟨p, 4, none⟩ = some (.map (some mb)) := hB.cell 4
  have c5 : w.cell? ⟨p, 5, none⟩ = some (.bool st.ow) := hB.cell 5
  have hA := hB.alloc (.cells (endCells st.win aw l cw st.ack st.dlv mb st.ow) 85)
  have d1 : (w.alloc (.cells #[.int .i64 st.win, .slice aw l cw, .int .i64 st.ack, .int .i64 st.dlv, .map (some mb), .bool st.ow] 85)).cell? ⟨p, 1, none⟩ = some (.slice aw l cw) := hA.p1.cell 1
  have hOne := h.p2.rows_all (fun v => v.oneCell' = true) rBytes_one
  clear hh
  go_enter Try.func26, Try.ntmps26
  go_wp2_with fail
  refine (clone_bytess aw l cw vws hA.p3 hOne g1).mono ?_
  rintro e w1 ⟨a', c', rfl, h3⟩
  obtain ⟨q, hq⟩ : ∃ q, q = w.heap.size := ⟨_, rfl⟩
  rw [← hq] at h3 ⊢
  have h4 := h3.p2
  have e0 : w1.cell? ⟨q, 1, none⟩ = some (.slice aw l cw) := h4.cell 1
  have e1 : w1.frozen? ⟨q, 1, none⟩ = false := h4.unfrozen 1
  have h5 := (h4.setCell 1 (.slice a' l c')).alloc (.map #[] 0)
  have f4 : ((w1.setCell ⟨q, 1, none⟩ (.slice a' l c')).alloc (.map #[] 0)).frozen? ⟨q, 4, none⟩ = false := h5.p1.unfrozen 4
  have f5 : ((w1.setCell ⟨q, 1, none⟩ (.slice a' l c')).alloc (.map #[] 0)).cell? ⟨q, 4, none⟩ = some (.map (some mb)) := h5.p1.cell 4
  clear hA d1 hB c0 c1 c2 c3 c4 c5 hq h2 h
  have hmm := @run_makeMap Try.prog
  have h6 : Sat W (((w1.setCell ⟨q, 1, none⟩ (.slice a' l c')).alloc (.map #[] 0)).setCell ⟨q, 4, none⟩ (.map (some w1.heap.size))) _ := h5.p1.setCell 4 (.map (some w1.heap.size))
  have f6 : (((w1.setCell ⟨q, 1, none⟩ (.slice a' l c')).alloc (.map #[] 0)).setCell ⟨q, 4, none⟩ (.map (some w1.heap.size))).cell? ⟨p, 4, none⟩ = some (.map (some mb)) := h6.p4.cell 4
  have hr6 := fun (t k e : TypeId) ht => run_range_map (P := Try.prog) _ t k e mb #[] clock ht h6.p5.blk_heap
  have hr7 := hr6 83 3 31 Try.underlying83
  have h7 := h6.alloc (.mapIter (some mb) clock #[] clock)
  clear hr6 h4 h3
  have e8 : ((endCells st.win aw l cw st.ack st.dlv mb st.ow).setIfInBounds 1 (.slice a' l c')).setIfInBounds 4 (.map (some w1.heap.size)) = endCells st.win a' l c' st.ack st.dlv w1.heap.size st.ow := rfl
  rw [e8] at h7
  simp only [World.size_alloc, World.size_setCell] at h7
  go_wp2_with fail
  go_loopw [] (fun wr => Sat W wr (sep (blk (w1.heap.size + 1) (.mapIter (some mb) clock #[] clock)) (sep (blk mb (.map #[] clock)) (sep (blk q (.cells (endCells st.win a' l c' st.ack st.dlv w1.heap.size st.ow) 85 (0, 0))) (sep (blk w1.heap.size (.map #[] 0)) (sep (osl 31 1 a' l c' vws) (sep (osl 31 1 aw l cw vws) (sep (blk p (.cells (endCells st.win aw l cw st.ack st.dlv mb st.ow) 85 (0, 0))) (sep ((rBytes.rows 1).is vws st.wait) (sep (isHeld f st.held) A)))))))))) (fun _ => 0)
  case atStart => simpa only [sep_comm, sep_lcomm, sep_assoc] using h7
  case round =>
    have hS := hrel
    clear hrel h7 hr7 h6 h5 f4 f5 f6 hmm
    have hx : ∀ ty, (Instr.next (.pointer (some ⟨w1.heap.size + 1, 0, none⟩)) false ty).run Try.prog wr = .ok (.tuple #[.bool false]) wr := by
      intro ty
      rcases run_next_at (P := Try.prog) wr ty (w1.heap.size + 1) mb clock clock #[] #[] clock hS.blk_heap hS.p1.blk_heap (by intro x hx; cases hx) (Nat.le_refl _) with ⟨-, h⟩ | ⟨e, he, -⟩
      · exact h
      · simp [leftOf] at he
    go_wp2_with fail
    go_ret
    subst hf
    refine ⟨q, rfl, ?_⟩
    have h8 := hS.forget
    have h9 := (h8.p2.imap_mk (f := fun _ => none) (n := 0) MapRep.nil rfl)
    have h10 := (h9.p1.imap_mk (f := fun _ => none) (n := 0) MapRep.nil rfl)
    have h11 : Sat W wr (sep ((rBytes.rows 1).is vws st.wait) (sep ((rBytes.rows 1).is vws st.wait) (sep (isHeld (fun _ => none) st.held) (sep (isHeld (fun _ => none) st.held) _)))) := h10.p7.dup.p8.dup
    have h12 : Sat W wr (sep (endAt q st a' l c' vws w1.heap.size (fun _ => none) 0) (sep (endAt p st aw l cw vws mb (fun _ => none) 0) A)) := by
      simpa only [endAt, sep_comm, sep_lcomm, sep_assoc] using h11
    exact (isEnd_mk (isEnd_mk h12).p1).p1
end Go.Proofs.Ytnmkdidhilekiaa
