/- Package channel: Delete, New, Waiting, valid. -/
import Derived.Test.YtnmkdidhilekiaaCh
namespace Go.Proofs.Ytnmkdidhilekiaa
open Go.RowKit PA
set_option maxHeartbeats 400000 in
theorem delete_bytess {W w : World} {A : Assn} (a : Option Addr) (l c n : Nat) (xs : List Value) (h : Sat W w (sep (osl 31 1 a l c xs) A)) (hn0 : 0 < n) (hn : n ≤ l) (hx : ∀ u ∈ xs, u.oneCell' = true) :
    Calls Try.prog 44 #[.slice a l c, .int .i64 0, .int .i64 n] w fun e w' => e = .returned (.slice a (l - n) c) ∧ Sat W w' (sep (osl 31 1 a (l - n) c (xs.drop n)) A) := by
  rcases h.osl_cases with ⟨rfl, rfl, rfl, rfl, h0⟩ | ⟨g, cur, rfl, hlen, hlc, hcm, hcs, htake, hS⟩
  · omega
  · simp only [Nat.mul_one] at hlen hcs htake
    have hlen' := Lib.hid hlen
    have b1 : (l : Int) ≤ 9223372036854775807 := by unfold maxLen at hcm; omega
    have b2 : (0 : Int) < n := by omega
    have b3 : (n : Int) ≤ l := by omega
    have b4 : ((0 : Int) == n) = false := by simp; omega
    have b5 : l ≤ c := hlc
    have b6 : (c : Int) ≤ 9223372036854775807 := by unfold maxLen at hcm; omega
    go_enter Try.func44, Try.ntmps44
    go_wp2
    refine wp_region_canon rfl (fun _ => True) [(0, .p), (1, .p), (2, .p), (3, .p), (4, .p), (5, .p), (6, .e false), (7, .p)] (by kernel_rfl) ?_
    have hS0 : True := trivial
    (repeat (first | (refine C_p (v := ?_) rfl rfl (fun w' => ?_) ?_; rotate_left; (go_simp; with_reducible rfl); simp only [Act.put, List.setIfInBounds_toArray, List.set_cons_zero, List.set_cons_succ]) | (refine C_s (v := ?_) rfl rfl hS0 (fun w' hS => ?_) ?_; rotate_left; ((try dsimp only at hS); go_simp; with_reducible rfl); simp only [Act.put, List.setIfInBounds_toArray, List.set_cons_zero, List.set_cons_succ]) | (refine C_t (v := ?_) rfl rfl ?_ ?_; rotate_left; (go_simp; with_reducible rfl); simp only [Act.put, List.setIfInBounds_toArray, List.set_cons_zero, List.set_cons_succ]) | (refine C_po rfl rfl ?_; simp only [Act.put, List.setIfInBounds_toArray, List.set_cons_zero, List.set_cons_succ]) | (refine C_so rfl rfl hS0 ?_; simp only [Act.put, List.setIfInBounds_toArray, List.set_cons_zero, List.set_cons_succ]) | (refine C_to rfl rfl ?_; simp only [Act.put, List.setIfInBounds_toArray, List.set_cons_zero, List.set_cons_succ])))
    refine C_e rfl rfl (fun K hK => ?_)
    obtain ⟨i, hi, hi3, hi2, hi4⟩ := info_parts infoBytes
    have e : (if c = n then some (⟨g, 0, none⟩ : Addr) else some ⟨g, n, none⟩) = some (if c = n then ⟨g, 0, none⟩ else ⟨g, n, none⟩) := by split <;> rfl
    have hdl : (xs.drop n).length = l - n := by simp [hlen]
    have hsrc : ∀ j u, (xs.drop n)[j]? = some u → w.drew.cell? ((if c = n then (⟨g, 0, none⟩ : Addr) else ⟨g, n, none⟩).add j) = some u := by
      intro j u hu
      have hj : j < l - n := by rw [← hdl]; exact (List.getElem?_eq_some_iff.1 hu).1
      rw [if_neg (by omega)]
      rw [List.getElem?_drop, ← htake, List.getElem?_take, if_pos (by omega)] at hu
      have := hS.cell (n + j)
      rw [show ((⟨g, n, none⟩ : Addr).add j) = ⟨g, n + j, none⟩ by unfold Addr.add; split <;> simp_all]
      show w.cell? _ = _
      rw [this]; simpa using hu
    have hrun := run_append_room (P := Try.prog) w.drew 42 42 31 i Try.underlying42 hi g 0 c cur hS.blk_heap (if c = n then ⟨g, 0, none⟩ else ⟨g, n, none⟩) (l - n) (c - n) (xs.drop n) (by rw [hdl, hi2, Nat.mul_one]) hsrc (fun u hu => hx u (List.mem_of_mem_drop hu)) (by omega) (by rw [hdl, hi2, hcs]; omega)
    obtain ⟨cur1, hcur1⟩ : ∃ cur1, cur1 = (cur.toList.take (0 * i.size) ++ xs.drop n ++ cur.toList.drop (0 * i.size + (xs.drop n).length)).toArray := ⟨_, rfl⟩
    rw [← hcur1] at hrun
    refine wp_of_run (exec_append (.tmp 22) (.tmp 25) 42 42 rfl (by show (Builtin.append_ _ _ #[.slice (some ⟨g, 0, none⟩) 0 c, .slice (if c = n then some ⟨g, 0, none⟩ else some ⟨g, n, none⟩) (l - n) (c - n)]).run _ _ = _; rw [e]; exact hrun)) ?_
    have hS1 := hS.drew.setRow cur1
    have k1 : cur1.size = c := by rw [hcur1]; simp [hlen, hcs]; omega
    have k2 : cur1.toList.take (l - n) = xs.drop n := by rw [hcur1]; simp [hlen]
    generalize w.drew.setRow g cur1 = w1 at *
    clear hrun hsrc hi hi2 hi3 hi4 e hdl hcur1
    simp only [Nat.zero_add]
    (refine hK _ _ (fun h => by cases h) ?_; clear hK K; (try simp only [Act.put, List.setIfInBounds_toArray, List.set_cons_zero, List.set_cons_succ]))
    (repeat (first | (refine C_p (v := ?_) rfl rfl (fun w' => ?_) ?_; rotate_left; (go_simp; with_reducible rfl); simp only [Act.put, List.setIfInBounds_toArray, List.set_cons_zero, List.set_cons_succ]) | (refine C_s (v := ?_) rfl rfl hS0 (fun w' hS => ?_) ?_; rotate_left; ((try dsimp only at hS); go_simp; with_reducible rfl); simp only [Act.put, List.setIfInBounds_toArray, List.set_cons_zero, List.set_cons_succ]) | (refine C_t (v := ?_) rfl rfl ?_ ?_; rotate_left; (go_simp; with_reducible rfl); simp only [Act.put, List.setIfInBounds_toArray, List.set_cons_zero, List.set_cons_succ]) | (refine C_po rfl rfl ?_; simp only [Act.put, List.setIfInBounds_toArray, List.set_cons_zero, List.set_cons_succ]) | (refine C_so rfl rfl hS0 ?_; simp only [Act.put, List.setIfInBounds_toArray, List.set_cons_zero, List.set_cons_succ]) | (refine C_to rfl rfl ?_; simp only [Act.put, List.setIfInBounds_toArray, List.set_cons_zero, List.set_cons_succ])))
    refine C_nil ?_
    clear hS h htake hlen hcs
    obtain ⟨m, hm⟩ : ∃ m, m = l - n := ⟨_, rfl⟩
    rw [← hm] at k2 ⊢
    have b7 : m < l := by omega
    have b8 : m < c := by omega
    have Hm := Lib.hid hm
    have hz : ∀ w, (zeroValue 31).run Try.prog w = .ok (.slice none 0 0) w := fun _ => by kernel_rfl
    have hclr := fun ty => run_clear_row (P := Try.prog) 42 ty 31 (.slice none 0 0) Try.underlying42 hz rfl rfl hS1 m (l - m) (c - m) (by omega) (by omega)
    have hS2 := hS1.setRow (cur1.toList.take m ++ List.replicate (l - m) (Value.slice none 0 0) ++ cur1.toList.drop (m + (l - m))).toArray
    have k3 : (cur1.toList.take m ++ List.replicate (l - m) (Value.slice none 0 0) ++ cur1.toList.drop (m + (l - m))).toArray.size = c := by simp [k1]; omega
    have k4 : (cur1.toList.take m ++ List.replicate (l - m) (Value.slice none 0 0) ++ cur1.toList.drop (m + (l - m))).toArray.toList.take m = xs.drop n := by
      have hle : m ≤ (cur1.toList.take m).length := by rw [List.length_take, Array.length_toList, k1]; omega
      rw [← k2]; show List.take m (cur1.toList.take m ++ List.replicate (l - m) _ ++ cur1.toList.drop (m + (l - m))) = _; rw [List.append_assoc, List.take_append_of_le_length hle, List.take_take, Nat.min_self]
    generalize (cur1.toList.take m ++ List.replicate (l - m) (Value.slice none 0 0) ++ cur1.toList.drop (m + (l - m))).toArray = cur2 at *
    have K3 := Lib.hid k3
    have K4 := Lib.hid k4
    have hcm' : c ≤ maxLen := hcm
    have HC := Lib.hid hcm'
    clear hm k1 k2 k3 k4 hcm hcm' hS1 hz
    generalize (if c = n then some (⟨g, 0, none⟩ : Addr) else some ⟨g, n, none⟩) = ad0
    go_wp2_with fail
    go_ret
    have hm := Hm.out
    subst hm
    exact ⟨rfl, hS2.osl_mk (l - n) c 1 (xs.drop n) (by rw [List.length_drop, hlen'.out, Nat.mul_one]) (by omega) HC.out (by rw [K3.out, Nat.mul_one]) (by rw [Nat.mul_one]; exact K4.out)⟩
theorem _root_.PA.Sat.isHeld_nil {W w : World} {A : Assn} (h : Sat W w A) : Sat W w (sep (isHeld (fun _ => none) (fun _ => none)) A) := by
  obtain ⟨h1, h2, h3, I, m, h4, h5, h6, h7⟩ := h
  exact ⟨h1, h2, h3, I, m, h4, h5, h6, Mem.no, m, fun _ => .inl rfl, (Mem.un_no _).symm, ⟨rfl, fun _ => trivial⟩, h7⟩
theorem _root_.PA.Sat.rows_nil {W w : World} {A : Assn} {α : Type} (R : Rep α) (k : Nat) (h : Sat W w A) : Sat W w (sep ((R.rows k).is [] []) A) := by
  obtain ⟨h1, h2, h3, I, m, h4, h5, h6, h7⟩ := h
  exact ⟨h1, h2, h3, I, m, h4, h5, h6, Mem.no, m, fun _ => .inl rfl, (Mem.un_no _).symm, ⟨rfl, [], rfl, trivial⟩, h7⟩
def newEnd (win : Int) : AEnd := ⟨win, [], 0, 0, fun _ => none, false⟩
set_option maxHeartbeats 400000 in
theorem new_ok {W w : World} {A : Assn} (win : Int) (h : Sat W w A) (h1 : 1 ≤ win) (h2 : win ≤ 16) :
    Calls Try.prog 25 #[.int .i64 win] w fun e w' => ∃ p, e = .returned (.tuple #[.pointer (some ⟨p, 0, none⟩), .int .i64 0]) ∧ Sat W w' (sep (isEnd p (newEnd win)) A) := by
  have hmm := @run_makeMap Try.prog
  go_enter Try.func25, Try.ntmps25
  go_wp2
  go_ret2
  refine ⟨_, rfl, ?_⟩
  show Sat W ((w.alloc (.map #[] 0)).alloc (.cells (endCells win none 0 0 0 0 w.heap.size false) 85)) _
  have h3 := (h.alloc (.map #[] 0)).imap_mk (n := 0) MapRep.nil rfl
  have h4 := (((h3.alloc (.cells (endCells win none 0 0 0 0 w.heap.size false) 85)).osl_nil 31 1).rows_nil rBytes 1).isHeld_nil
  refine isEnd_mk (st := newEnd win) (aw := none) (l := 0) (cw := 0) (vws := []) (mb := w.heap.size) (f := fun _ => none) (n := 0) ?_
  rw [World.size_alloc] at h4
  simpa only [endAt, newEnd, sep_comm, sep_lcomm, sep_assoc] using h4
set_option maxHeartbeats 400000 in
theorem new_no {W w : World} {A : Assn} (win : Int) (h : Sat W w A) (h1 : win < 1 ∨ 16 < win) :
    Calls Try.prog 25 #[.int .i64 win] w fun e w' => e = .returned (.tuple #[.pointer none, .int .i64 1]) ∧ Sat W w' A := by
  rcases h1 with h1 | h1
  · go_enter Try.func25, Try.ntmps25
    go_wp2
    go_ret2
    exact ⟨rfl, h⟩
  · have h2 : ¬ win < 1 := by omega
    go_enter Try.func25, Try.ntmps25
    go_wp2
    go_ret2
    exact ⟨rfl, h⟩
theorem waiting_spec {W w : World} {A : Assn} (p : Nat) (st : AEnd) (h : Sat W w (sep (isEnd p st) A)) :
    Calls Try.prog 22 #[.pointer (some ⟨p, 0, none⟩)] w fun e w' => e = .returned (.int .i64 st.wait.length) ∧ Sat W w' (sep (isEnd p st) A) := by
  obtain ⟨aw, l, cw, vws, mb, f, n, h0⟩ := isEnd_open h
  simp only [endAt, sep_assoc] at h0
  have hvl := h0.p2.rows_len
  have hol := h0.p1.osl_len
  have hll : l = st.wait.length := by omega
  have c1 : w.cell? ⟨p, 1, none⟩ = some (.slice aw l cw) := h0.cell 1
  rw [← hll]
  clear hll hol hvl
  go_enter Try.func22, Try.ntmps22
  go_wp2
  go_ret
  exact ⟨rfl, h⟩
def validB (s a : Int) (l : Nat) : Bool := decide (0 ≤ s) && decide (0 ≤ a) && decide (l ≤ 65536) && (decide (0 < s) || decide (l = 0))
set_option maxHeartbeats 400000 in
theorem valid_spec {W w : World} {A : Assn} (s a : Int) (b : Option Addr) (l c : Nat) (h : Sat W w A) (hl : l ≤ maxLen) :
    Calls Try.prog 43 #[.agg #[.int .i64 s, .int .i64 a, .slice b l c]] w fun e w' => e = .returned (.bool (validB s a l)) ∧ Sat W w' A := by
  have hl' : (l : Int) ≤ 9223372036854775807 := by unfold maxLen at hl; omega
  clear hl
  by_cases h1 : 0 ≤ s <;> by_cases h2 : 0 ≤ a <;> by_cases h3 : l ≤ 65536 <;> by_cases h4 : 0 < s <;> by_cases h5 : l = 0 <;> (try (exfalso; omega)) <;>
    (go_enter Try.func43, Try.ntmps43; go_wp2; go_ret; refine ⟨?_, h.alloc0 _⟩; simp [validB, h1, h2, h3, h4, h5]; try (rw [show ((l : Int) == 0) = false by simp; omega, show decide (0 < s) = false by simp; omega]))
set_option maxHeartbeats 1000000 in
theorem send_no {W w : World} {A : Assn} (p : Nat) (st : AEnd) (v : Value) (bs : List UInt8) (h : Sat W w (sep (isEnd p st) (sep (rBytes.is [v] bs) A))) (hn : 65536 < bs.length ∨ 1000 ≤ st.wait.length) :
    Calls Try.prog 13 #[.pointer (some ⟨p, 0, none⟩), v] w fun e w' => e = .returned (.int .i64 4) ∧ Sat W w' (sep (isEnd p st) (sep (rBytes.is [v] bs) A)) := by
  obtain ⟨aw, l, cw, vws, mb, f, n, h0⟩ := isEnd_open h
  simp only [endAt, sep_assoc] at h0
  have hvl := h0.p2.rows_len
  have hol := h0.p1.osl_len
  have hll : l = st.wait.length := by omega
  have c1 : w.cell? ⟨p, 1, none⟩ = some (.slice aw l cw) := h0.cell 1
  obtain ⟨ab, cb, rfl, hwf, hb⟩ := h0.p5.bytes_open
  have g2 : (bs.length : Int) ≤ 9223372036854775807 := by have := hwf.1; have := hwf.2.1; unfold maxLen at this; omega
  have H := Lib.hid h
  rw [← hll] at hn
  clear h
  obtain ⟨nb, hnb⟩ : ∃ nb, nb = bs.length := ⟨_, rfl⟩
  rw [← hnb] at hn g2 H ⊢
  clear hnb hwf hb h0 hvl hol hll
  by_cases h1 : 65536 < nb
  · clear hn
    go_enter Try.func13, Try.ntmps13
    go_wp2
    go_ret
    exact ⟨rfl, H.out⟩
  · have h2 : 1000 ≤ l := by omega
    clear hn
    go_enter Try.func13, Try.ntmps13
    go_wp2
    go_ret
    exact ⟨rfl, H.out⟩
end Go.Proofs.Ytnmkdidhilekiaa
