/- ChannelProgress, the walk. -/
import Derived.Test.YtnmkdidhilekiaaPro
import Derived.Lib.SliceRun
namespace Go.Proofs.Ytnmkdidhilekiaa
open Go.RowKit PA
def row2 (f : Nat → Nat) : Array Value := #[iv (f 0), iv (f 1)]
theorem row2_get (f : Nat → Nat) (k : Nat) (hk : k < 2) : (row2 f)[k]? = some (.int .i64 (f k)) := by
  match k, hk with
  | 0, _ => rfl
  | 1, _ => rfl
theorem row2_set (f : Nat → Nat) (k : Nat) (hk : k < 2) (n : Nat) : (row2 f).setIfInBounds k (.int .i64 n) = row2 fun j => if j = k then n else f j := by
  match k, hk with
  | 0, _ => rfl
  | 1, _ => rfl
/-- The ends' values, and the numbers of messages. -/
def ProE (b bm : Nat) (P mm : Nat → Nat) (A : Assn) : Assn := sep (rsl (some ⟨b, 0, none⟩) [ptr (P 0), ptr (P 1)]) (sep (imm bm (.cells (row2 mm) 3)) A)
theorem ProE_cells {W w : World} {A B : Assn} {b bm : Nat} {P mm : Nat → Nat} (h : Sat W w (sep A (ProE b bm P mm B))) (k : Nat) (hk : k < 2) :
    w.cell? ⟨b, k, none⟩ = some (.pointer (some ⟨P k, 0, none⟩)) ∧ w.cell? ⟨bm, k, none⟩ = some (.int .i64 (mm k)) := by
  have h1 := h.p1
  refine ⟨?_, ?_⟩
  · have h2 : Sat W w (sep (rsl (some ⟨b, 0, none⟩) [ptr (P 0), ptr (P 1)]) (sep (imm bm (.cells (row2 mm) 3)) (sep B A))) := by
      simpa only [ProE, sep_comm, sep_lcomm, sep_assoc] using h
    exact two_cellk (f := fun k => ptr (P k)) h2 k hk
  · have h2 : Sat W w (sep (imm bm (.cells (row2 mm) 3)) (sep (rsl (some ⟨b, 0, none⟩) [ptr (P 0), ptr (P 1)]) (sep B A))) := by
      simpa only [ProE, sep_comm, sep_lcomm, sep_assoc] using h
    rw [h2.imm_cell k]; exact row2_get mm k hk
def ProR1 (W : World) (b bm : Nat) (P mm : Nat → Nat) (win : Nat → Int) (i : Value) (wr : World) : Prop :=
  ∃ k : Nat, k ≤ 2 ∧ i = .int .i64 k ∧ Sat W wr (sep (isTwo P fun j => sentSt (win j) (if j < k then mm j else 0)) (ProE b bm P mm emp))
def ProR2 (W : World) (b bm : Nat) (P mm : Nat → Nat) (win : Nat → Int) (k : Nat) (i : Value) (wr : World) : Prop :=
  ∃ n : Nat, n ≤ mm k ∧ i = .int .i64 n ∧ Sat W wr (sep (isTwo P fun j => sentSt (win j) (if j < k then mm j else if j = k then n else 0)) (ProE b bm P mm emp))
def ProR3 (W : World) (b bm : Nat) (P mm : Nat → Nat) (win : Nat → Int) (r : Nat) (i : Value) (wr : World) : Prop :=
  ∃ n : Nat, n ≤ r ∧ i = .int .i64 n ∧ Sat W wr (sep (isTwo P fun j => sentSt (win j) (mm j)) (ProE b bm P mm emp))
def gf (x d a : Nat) : Nat → Nat := fun q => if q = x then d else a
def PInv (mm : Nat → Nat) (i k a d a' : Nat) (o : Bool) : Prop :=
  a ≤ mm (k % 2) ∧ d ≤ mm (1 - k % 2) ∧ a' ≤ d ∧ (o = true ∨ a' = d) ∧ min (mm (k % 2)) (i + k / 2) ≤ a ∧ min (mm (1 - k % 2)) (i + (k + 1) / 2) ≤ d ∧ min (mm (1 - k % 2)) (i + (k + 1) / 2 - 1) ≤ a'
def ProR4 (W : World) (b bm gb : Nat) (P mm : Nat → Nat) (win : Nat → Int) (M : Nat) (iv : Value) (wr : World) : Prop :=
  ∃ (i a d a' : Nat) (o : Bool), i ≤ M + 1 ∧ iv = .int .i64 i ∧ PInv mm i 0 a d a' o ∧
    Sat W wr (sep (isTwo P (PSt win mm 0 a d a' o)) (sep (blk gb (.cells (row2 (gf 0 d a)) 3 (0, 0))) (ProE b bm P mm emp)))
def ProR5 (W : World) (b bm gb : Nat) (P mm : Nat → Nat) (win : Nat → Int) (i : Nat) (kv : Value) (wr : World) : Prop :=
  ∃ (k a d a' : Nat) (o : Bool), k ≤ 2 ∧ kv = .int .i64 k ∧ PInv mm i k a d a' o ∧
    Sat W wr (sep (isTwo P (PSt win mm (k % 2) a d a' o)) (sep (blk gb (.cells (row2 (gf (k % 2) d a)) 3 (0, 0))) (ProE b bm P mm emp)))
def ProR6 (W : World) (b bm gb : Nat) (P mm : Nat → Nat) (win : Nat → Int) (k a d a' n L : Nat) (ps : Assn) (jv : Value) (wr : World) : Prop :=
  ∃ j : Nat, j ≤ L ∧ jv = .int .i64 j ∧
    Sat W wr (sep (isEnd (P (1 - k)) (PY (win (1 - k)) (mm (1 - k)) a d a' n j)) (sep (isEnd (P k) (proSt (win k) (mm k) a d false)) (sep (blk gb (.cells (row2 (gf k d (a + if n = 0 then 0 else j))) 3 (0, 0))) (sep ps (ProE b bm P mm emp)))))
def ProR7 (W : World) (gb : Nat) (k d g L : Nat) (R : Assn) (rv : Value) (wr : World) : Prop :=
  ∃ r : Nat, r ≤ L ∧ rv = .int .i64 r ∧ Sat W wr (sep (blk gb (.cells (row2 (gf k d (g + r))) 3 (0, 0))) R)
theorem gf_put (k y d m n : Nat) (hk : k < 2) (hy : y < 2) (hyk : y ≠ k) : row2 (fun j => if j = y then n else gf k d m j) = row2 (gf k d n) := by
  match k, hk, y, hy, hyk with
  | 0, _, 1, _, _ => rfl
  | 1, _, 0, _, _ => rfl
  | 0, _, 0, _, h => exact absurd rfl h
  | 1, _, 1, _, h => exact absurd rfl h
theorem gf_turn (k y d n : Nat) (hk : k < 2) (hy : y = 1 - k) : row2 (gf k d n) = row2 (gf y n d) := by
  subst hy
  match k, hk with
  | 0, _ => rfl
  | 1, _ => rfl
theorem PY_end (w : Int) (m a d a' n : Nat) (o : Bool) (L mx : Nat) (w' : Int) (hL : L = outN (proSt w' mx a d o) n) (ho : o = true ∨ a' = d) : PY w m a d a' n L = proSt w m d (a + n) (decide (0 < n)) ∧ (a + if n = 0 then 0 else L) = a + n := by
  by_cases h0 : n = 0
  · subst h0
    refine ⟨?_, by simp⟩
    cases o with
    | true =>
      have : L = 1 := by rw [hL]; rfl
      subst this; rfl
    | false =>
      have : L = 0 := by rw [hL]; rfl
      subst this
      rcases ho with h | h
      · cases h
      · subst h; rfl
  · have : L = n := by rw [hL]; unfold outN; rw [if_neg (fun h => h0 h.1)]
    subst this
    simp [PY, h0]
theorem PY_ok {w : Int} {m a d a' n j : Nat} (h1 : a' ≤ d) (h2 : d ≤ m) (h3 : m < 41) (h4 : a < 41) (h5 : j ≤ 41) : (∀ k, (PY w m a d a' n j).held k ≠ none → k ≤ 2000000000) ∧ 0 ≤ (PY w m a d a' n j).ack ∧ (PY w m a d a' n j).ack + (PY w m a d a' n j).wait.length ≤ 1000000000 ∧ 0 ≤ (PY w m a d a' n j).dlv ∧ (PY w m a d a' n j).dlv ≤ 1000000000 := by
  unfold PY
  split
  · exact ⟨fun k hk => absurd rfl hk, by simp [proSt], by simp [proSt, msgs_len]; omega, by simp [proSt], by simp [proSt]; omega⟩
  · refine ⟨fun k hk => absurd rfl hk, by simp [proSt], by simp [proSt, msgs_len]; omega, by simp only [proSt]; omega, ?_⟩
    simp only [proSt]
    split <;> omega
theorem upd_self (S : Nat → AEnd) (k : Nat) : upd S k (S k) = S := by
  funext j; unfold upd; split
  · rename_i h; rw [h]
  · rfl
set_option maxHeartbeats 4000000 in
set_option maxRecDepth 100000 in
theorem channelProgress_walk (a0 a1 a2 a3 : Int) (w0 : (Lit.int .i64 a0).wf = true) (w1 : (Lit.int .i64 a1).wf = true) (w2 : (Lit.int .i64 a2).wf = true) (w3 : (Lit.int .i64 a3).wf = true) (w : World) :
    Calls Try.prog 5 #[.int .i64 a0, .int .i64 a1, .int .i64 a2, .int .i64 a3] w fun e w' => e = .returned (.bool true) ∧ Below w.heap.size w w' := by
  obtain ⟨b0, b1⟩ := i64_of_wf w0
  obtain ⟨b2, b3⟩ := i64_of_wf w1
  obtain ⟨b4, b5⟩ := i64_of_wf w2
  obtain ⟨b6, b7⟩ := i64_of_wf w3
  clear w0 w1 w2 w3
  have qE : ∀ (w : World) (a : Option Addr) (n c n' c' : Nat), (binOp .eql 23 (.slice a n c) (.slice none n' c')).run Try.prog w = .ok (.bool a.isNone) w := fun w a n c n' c' => Lib.run_eql_slice_nil w _ _ a n c n' c' Try.underlying23
  go_enter Try.func5, Try.ntmps5
  go_wp2_with fail
  refine (ends_spec a0 (Sat.start w) b0 b1).mono ?_
  rintro e w1 ⟨b, P, rfl, h1⟩
  clear b0 b1
  obtain ⟨win, hwin, hw1, hw2⟩ : ∃ win : Nat → Int, (fun k => newEnd (1 + aroundI (if k = 0 then a0 else a0.tdiv 16) 16)) = (fun k => sentSt (win k) 0) ∧ (∀ k, 1 ≤ win k) ∧ (∀ k, win k ≤ 16) :=
    ⟨fun k => 1 + aroundI (if k = 0 then a0 else a0.tdiv 16) 16, rfl, fun k => by have := aroundI_lt (if k = 0 then a0 else a0.tdiv 16) 16 (by omega); show (1 : Int) ≤ 1 + _; omega, fun k => by have := aroundI_lt (if k = 0 then a0 else a0.tdiv 16) 16 (by omega); show (1 : Int) + _ ≤ 16; omega⟩
  rw [hwin] at h1
  clear hwin
  go_wp2_with fail
  refine (around_spec a1 41 _ b2 b3 (by omega) (by omega)).mono ?_
  rintro e w2 ⟨rfl, rfl⟩
  obtain ⟨g1, g2⟩ := aroundI_lt a1 41 (by omega)
  obtain ⟨m0, hm0⟩ : ∃ n : Nat, aroundI a1 41 = n := ⟨(aroundI a1 41).toNat, by omega⟩
  rw [hm0] at g1 g2 ⊢
  have hm0' : m0 < 41 := by omega
  clear hm0 g1 g2 b2 b3
  go_wp2_with fail
  refine (around_spec a2 41 _ b4 b5 (by omega) (by omega)).mono ?_
  rintro e w2 ⟨rfl, rfl⟩
  obtain ⟨g1, g2⟩ := aroundI_lt a2 41 (by omega)
  obtain ⟨m1, hm1⟩ : ∃ n : Nat, aroundI a2 41 = n := ⟨(aroundI a2 41).toNat, by omega⟩
  rw [hm1] at g1 g2 ⊢
  have hm1' : m1 < 41 := by omega
  clear hm1 g1 g2 b4 b5
  go_wp2_with fail
  obtain ⟨mm, hmm, hmm0, hmm1, hk41⟩ : ∃ mm : Nat → Nat, mm = (fun k => if k = 0 then m0 else m1) ∧ m0 = mm 0 ∧ m1 = mm 1 ∧ ∀ k, mm k < 41 := ⟨_, rfl, rfl, rfl, fun k => by show (if k = 0 then m0 else m1) < 41; split <;> assumption⟩
  subst hmm0
  subst hmm1
  clear hmm hm0' hm1'
  obtain ⟨bm, hbm⟩ : ∃ bm, bm = w1.heap.size := ⟨_, rfl⟩
  have h2 : Sat w (w1.alloc (.cells #[.int .i64 (mm 0), .int .i64 (mm 1)] 3)) (sep (isTwo P fun j => sentSt (win j) (if j < 0 then mm j else 0)) (ProE b bm P mm emp)) := by
    have h3 := (h1.alloc (.cells #[.int .i64 (mm 0), .int .i64 (mm 1)] 3)).settle
    rw [← hbm] at h3
    simpa only [Nat.not_lt_zero, if_false, ProE, row2, iv, sep_comm, sep_lcomm, sep_assoc] using h3
  generalize (w1.alloc (.cells #[.int .i64 (mm 0), .int .i64 (mm 1)] 3)) = w2 at h2 ⊢
  rw [← hbm]
  clear hbm h1
  go_loopw [11] (ProR1 w b bm P mm win) (fun i _ => 2 - (intOf i).toNat)
  case atStart => exact ⟨0, by omega, rfl, h2⟩
  case round =>
    clear h2
    obtain ⟨k, hk, rfl, hS⟩ := hrel
    by_cases hk2 : k < 2
    · have hbk : decide ((k : Int) < 2) = true := by simp; omega
      go_wp2_with fail
      go_loopw [12] (ProR2 w b bm P mm win k) (fun i _ => mm k - (intOf i).toNat)
      case atStart =>
        refine ⟨0, by omega, rfl, ?_⟩
        rw [show (fun j => sentSt (win j) (if j < k then mm j else if j = k then 0 else 0)) = (fun j => sentSt (win j) (if j < k then mm j else 0)) by funext j; split <;> simp]
        exact hS
      case round =>
        clear hS
        obtain ⟨n, hn, rfl, hS⟩ := hrel
        obtain ⟨c1, c2⟩ := ProE_cells hS k hk2
        have hkm := hk41 k
        by_cases hlt : n < mm k
        · have hbv : #[Value.int .u8 (n : Int)] = ([UInt8.ofNat n].map bv).toArray := by
            have : n % 256 = n := Nat.mod_eq_of_lt (by omega)
            simp [bv, this]
          have HBV := Lib.hid hbv
          clear hbv
          go_wp2_with fail
          generalize hSt : (fun j => sentSt (win j) (if j < k then mm j else if j = k then n else 0)) = S at hS
          have hSk : S k = sentSt (win k) n := by rw [← hSt]; simp
          have HSt := Lib.hid hSt
          clear hSt
          have h3 := (hS.twoPick k hk2).bytes_of_alloc [UInt8.ofNat n] 5 (0, 0) (show 1 ≤ maxLen by decide)
          rw [← HBV.out, hSk] at h3
          clear hSk
          refine (send_ok (P k) _ _ _ h3.p1 (by simp) (by simp [sentSt, proSt, msgs_len]; omega)).mono ?_
          rintro e w3 ⟨rfl, h4⟩
          clear h3 hS HBV c1 c2
          rw [sent_succ] at h4
          have h5 := h4.twoPut (S := S) hk2
          rw [← HSt.out] at h5
          clear h4 HSt
          go_wp2_with fail
          go_roundw
          case rel =>
            refine ⟨n + 1, by omega, by go_num, ?_⟩
            rw [show (fun j => sentSt (win j) (if j < k then mm j else if j = k then n + 1 else 0)) = upd (fun j => sentSt (win j) (if j < k then mm j else if j = k then n else 0)) k (sentSt (win k) (n + 1)) by
              funext j; unfold upd; by_cases hj : j = k
              · subst hj; simp
              · simp [hj]]
            exact h5
          case measure => simp [intOf]; omega
        · obtain rfl : n = mm k := by omega
          clear hlt
          go_wp2_with fail
          go_roundw
          case rel =>
            refine ⟨k + 1, by omega, by go_num, ?_⟩
            rw [show (fun j => sentSt (win j) (if j < k + 1 then mm j else 0)) = (fun j => sentSt (win j) (if j < k then mm j else if j = k then mm k else 0)) by
              funext j; by_cases hj : j = k
              · subst hj; simp
              · have : j < k + 1 ↔ j < k := by omega
                simp [hj, this]]
            exact hS
          case measure => simp [intOf]; omega
    · obtain rfl : k = 2 := by omega
      clear hk hk2
      have h2 : Sat w wr (sep (isTwo P fun j => sentSt (win j) (mm j)) (ProE b bm P mm emp)) := by
        simpa only [isTwo, Nat.reduceLT, if_true] using hS
      clear hS
      rw [show ((2 : Nat) : Int) = 2 from rfl]
      obtain ⟨g1, g2⟩ := aroundI_lt a3 5 (by omega)
      obtain ⟨r, hr⟩ : ∃ n : Nat, aroundI a3 5 = n := ⟨(aroundI a3 5).toNat, by omega⟩
      have HR := Lib.hid hr
      rw [hr] at g1 g2
      have hr5 : r < 5 := by omega
      clear hr g1 g2
      go_wp2_with fail
      go_loopw [13] (ProR3 w b bm P mm win r) (fun i _ => r - (intOf i).toNat)
      case atStart => exact ⟨0, by omega, rfl, h2⟩
      case round =>
        clear h2
        obtain ⟨n, hn, rfl, hS⟩ := hrel
        go_wp2_with fail
        refine (around_spec a3 5 _ b6 b7 (by omega) (by omega)).mono ?_
        rintro e w2 ⟨rfl, rfl⟩
        rw [HR.out]
        by_cases hlt : n < r
        · have hk2 : n % 2 < 2 := Nat.mod_lt _ (by omega)
          have hbk : decide ((n : Int) < (r : Int)) = true := by simp; omega
          have hrem : Int.tmod (n : Int) 2 = ((n % 2 : Nat) : Int) := by rw [Int.tmod_eq_emod_of_nonneg (by omega)]; omega
          obtain ⟨k, hk⟩ : ∃ k, k = n % 2 := ⟨_, rfl⟩
          rw [← hk] at hk2 hrem
          clear hk
          obtain ⟨c1, -⟩ := ProE_cells hS k hk2
          go_wp2_with fail
          refine (out_pkts (P k) _ (hS.twoPick k hk2) (hw1 k) (hw2 k) (min (mm k) (win k).toNat) (by have := hw1 k; simp [sentSt, proSt, msgs_len]; omega) (by simp [sentSt, proSt]) (by simp [sentSt, proSt]) (msgs_short _ _)).mono ?_
          rintro e w3 ⟨ap, cp, rfl, -, h3⟩
          have h4 := h3.drop.twoPut (S := fun j => sentSt (win j) (mm j)) hk2
          rw [show ({ sentSt (win k) (mm k) with ow := false } : AEnd) = (fun j => sentSt (win j) (mm j)) k from rfl, upd_self] at h4
          clear h3 hS c1
          go_wp2_with fail
          go_roundw
          case rel => exact ⟨n + 1, by omega, by go_num, h4⟩
          case measure => simp [intOf]; omega
        · have hbk : decide ((n : Int) < (r : Int)) = false := by simp; omega
          go_wp2_with fail
          clear hlt hn hr5 HR
          obtain ⟨gb, hgb⟩ : ∃ gb, gb = wr.heap.size := ⟨_, rfl⟩
          have h2 : Sat w (wr.alloc (.cells #[.int .i64 0, .int .i64 0] 3)) (sep (isTwo P (PSt win mm 0 0 0 0 false)) (sep (blk gb (.cells (row2 (gf 0 0 0)) 3 (0, 0))) (ProE b bm P mm emp))) := by
            have h3 := (hS.alloc (.cells #[.int .i64 0, .int .i64 0] 3)).p1
            rw [← hgb] at h3
            exact h3
          rw [← hgb]
          generalize (wr.alloc (.cells #[.int .i64 0, .int .i64 0] 3)) = w3 at h2 ⊢
          clear hgb hS hbk
          obtain ⟨M, hM⟩ : ∃ M, M = max (mm 0) (mm 1) := ⟨_, rfl⟩
          have hmx : (if mm 0 < mm 1 then (mm 1 : Int) else (mm 0 : Int)) = (M : Int) := by split <;> omega
          have HM := Lib.hid hM
          have hM41 : M < 41 := by have := hk41 0; have := hk41 1; omega
          clear hM
          go_loopw [15] (ProR4 w b bm gb P mm win M) (fun i _ => M + 1 - (intOf i).toNat)
          case atStart => exact ⟨0, 0, 0, 0, false, by omega, rfl, ⟨by omega, by omega, by omega, .inr rfl, by omega, by omega, by omega⟩, h2⟩
          case round =>
            clear h2
            obtain ⟨i, a, d, a', o, hi, rfl, hI, hS⟩ := hrel
            have hSd := hS.p1.drop.drew
            obtain ⟨-, c0⟩ := ProE_cells hSd 0 (by omega)
            obtain ⟨-, c1⟩ := ProE_cells hSd 1 (by omega)
            clear hSd
            have hS0 : True := trivial
            by_cases hlt : i ≤ M
            · have hbi : decide ((i : Int) ≤ (M : Int)) = true := by simp; omega
              go_wp2_with fail
              refine wp_region_canon rfl (fun _ => True) [(0, .p), (1, .p), (2, .p), (3, .t), (4, .p), (5, .p), (6, .t), (7, .p), (8, .p)] (by kernel_rfl) ?_
              (repeat (first | (refine C_p (v := ?_) rfl rfl (fun w' => ?_) ?_; rotate_left; (go_simp; with_reducible rfl); simp only [Act.put, List.setIfInBounds_toArray, List.set_cons_zero, List.set_cons_succ]) | (refine C_s (v := ?_) rfl rfl hS0 (fun w' hS => ?_) ?_; rotate_left; ((try dsimp only at hS); go_simp; with_reducible rfl); simp only [Act.put, List.setIfInBounds_toArray, List.set_cons_zero, List.set_cons_succ]) | (refine C_t (v := ?_) rfl rfl ?_ ?_; rotate_left; (go_simp; with_reducible rfl); simp only [Act.put, List.setIfInBounds_toArray, List.set_cons_zero, List.set_cons_succ]) | (refine C_po rfl rfl ?_; simp only [Act.put, List.setIfInBounds_toArray, List.set_cons_zero, List.set_cons_succ]) | (refine C_so rfl rfl hS0 ?_; simp only [Act.put, List.setIfInBounds_toArray, List.set_cons_zero, List.set_cons_succ]) | (refine C_to rfl rfl ?_; simp only [Act.put, List.setIfInBounds_toArray, List.set_cons_zero, List.set_cons_succ])))
              refine C_nil ?_
              go_wp2_with fail
              go_loopw [16] (ProR5 w b bm gb P mm win i) (fun i _ => 2 - (intOf i).toNat)
              case atStart => exact ⟨0, a, d, a', o, by omega, rfl, hI, hS.drew⟩
              case round =>
                clear hS hI c0 c1
                obtain ⟨k, a, d, a', o, hk, rfl, hI, hS⟩ := hrel
                by_cases hk2 : k < 2
                · have hbk : decide ((k : Int) < 2) = true := by simp; omega
                  have hkm : k % 2 = k := Nat.mod_eq_of_lt hk2
                  obtain ⟨q1, q2, q3, q4, q5, q6, q7⟩ := hI
                  rw [hkm] at q1 q2 q5 q6 hS
                  clear hkm
                  obtain ⟨ce, -⟩ := ProE_cells hS.p1.drop k hk2
                  go_wp2_with fail
                  have hS2 := hS.twoPick k hk2
                  rw [show PSt win mm k a d a' o k = proSt (win k) (mm k) a d o by simp [PSt], show PSt win mm k a d a' o (1 - k) = proSt (win (1 - k)) (mm (1 - k)) a' a false by simp only [PSt]; rw [if_neg (by omega)]] at hS2
                  obtain ⟨n, hn⟩ : ∃ n : Nat, (n : Int) = min ((mm k - a : Nat) : Int) (win k) := ⟨(min ((mm k - a : Nat) : Int) (win k)).toNat, by have := hw1 k; omega⟩
                  have hk40 := hk41 k
                  have hk40' := hk41 (1 - k)
                  refine (out_pkts (P k) _ hS2 (hw1 k) (hw2 k) n (by simp only [proSt, List.length_drop, msgs_len]; exact hn) (by simp [proSt]) (by simp [proSt]; omega) (msgs_short _ _)).mono ?_
                  rintro e w3 ⟨ap, cp, he, hwp, hP⟩
                  obtain ⟨L, hL⟩ : ∃ L, L = outN (proSt (win k) (mm k) a d o) n := ⟨_, rfl⟩
                  rw [← hL] at he hwp hP
                  subst he
                  have hnk : n ≤ mm k - a := by omega
                  have hpl : (outPkts (proSt (win k) (mm k) a d o) n).length = L := by rw [hL]; exact outPkts_length _ n (by simp [proSt, msgs_len]; omega)
                  have hL2 : L ≤ 41 := by rw [hL]; unfold outN; split <;> omega
                  have HL := Lib.hid hL
                  have HN := Lib.hid hn
                  clear hL hn
                  rw [show outPkts (proSt (win k) (mm k) a d o) n = outPkts (proSt 0 (mm k) a d o) n from rfl] at hP hpl
                  rw [show ({ proSt (win k) (mm k) a d o with ow := false } : AEnd) = proSt (win k) (mm k) a d false from rfl] at hP
                  clear hS hS2 ce
                  have HPL := Lib.hid hpl
                  clear hpl
                  go_wp2_with fail
                  go_loopw [18] (ProR6 w b bm gb P mm win k a d a' n L ((rPkt.slice 3).is [.slice ap L cp] (outPkts (proSt 0 (mm k) a d o) n))) (fun i _ => L - (intOf i).toNat)
                  case atStart =>
                    refine ⟨0, by omega, rfl, ?_⟩
                    have : (a + if n = 0 then 0 else 0) = a := by split <;> rfl
                    rw [this]
                    simpa only [PY, if_true, sep_comm, sep_lcomm, sep_assoc] using hP
                  case round =>
                    clear hP
                    obtain ⟨j, hj, rfl, hS⟩ := hrel
                    by_cases hjL : j < L
                    · have hbj : decide ((j : Int) < (L : Int)) = true := by simp; omega
                      obtain ⟨y, hy⟩ : ∃ y, y = 1 - k := ⟨_, rfl⟩
                      have hy2 : y < 2 := by omega
                      have hy3 : (y : Int) < 2 := by omega
                      have hyk : y ≠ k := by omega
                      rw [← hy] at hS
                      have hsub : (1 : Int) - (k : Int) = (y : Int) := by omega
                      have hwy : IntKind.i64.wrap (1 - (k : Int)) = (y : Int) := by rw [hsub]; exact IntWalk.i64_in _ (by omega)
                      have hwy2 : IntKind.i64.wrap (y : Int) = (y : Int) := IntWalk.i64_in _ (by omega)
                      have q2y : d ≤ mm y := by rw [hy]; exact q2
                      have hk40y := hk41 y
                      have HY := Lib.hid hy
                      clear hy
                      go_wp2_with fail
                      have hD := hS.drew
                      obtain ⟨ce, -⟩ := ProE_cells hD.drop.drop.drop y hy2
                      have hjL' : j < (outPkts (proSt 0 (mm k) a d o) n).length := by rw [HPL.out]; exact hjL
                      obtain ⟨bp, op, v, rfl, g00, g01, g02, h7⟩ := pkt_get hD.p3 j hjL'
                      obtain ⟨pk, hpk⟩ : ∃ pk, pk = (outPkts (proSt 0 (mm k) a d o) n)[j] := ⟨_, rfl⟩
                      rw [← hpk] at g00 g01 h7
                      have HPK := Lib.hid hpk
                      clear hpk
                      obtain ⟨ab, cb, rfl, -, -⟩ := h7.bytes_open
                      have hS0 : True := trivial
                      clear hD
                      refine wp_region_canon rfl (fun _ => True) [(0, .p), (1, .p), (2, .p), (3, .p), (4, .t), (5, .p), (6, .p), (7, .p), (8, .t), (9, .e false), (10, .p)] (by kernel_rfl) ?_
                      (repeat (first | (refine C_p (v := ?_) rfl rfl (fun w' => ?_) ?_; rotate_left; (go_simp; with_reducible rfl); simp only [Act.put, List.setIfInBounds_toArray, List.set_cons_zero, List.set_cons_succ]) | (refine C_s (v := ?_) rfl rfl hS0 (fun w' hS => ?_) ?_; rotate_left; ((try dsimp only at hS); go_simp; with_reducible rfl); simp only [Act.put, List.setIfInBounds_toArray, List.set_cons_zero, List.set_cons_succ]) | (refine C_t (v := ?_) rfl rfl ?_ ?_; rotate_left; (go_simp; with_reducible rfl); simp only [Act.put, List.setIfInBounds_toArray, List.set_cons_zero, List.set_cons_succ]) | (refine C_po rfl rfl ?_; simp only [Act.put, List.setIfInBounds_toArray, List.set_cons_zero, List.set_cons_succ]) | (refine C_so rfl rfl hS0 ?_; simp only [Act.put, List.setIfInBounds_toArray, List.set_cons_zero, List.set_cons_succ]) | (refine C_to rfl rfl ?_; simp only [Act.put, List.setIfInBounds_toArray, List.set_cons_zero, List.set_cons_succ])))
                      (refine C_e rfl rfl (fun K hK => ?_); go_simp)
                      obtain ⟨f1, f2, f3, f4, f5⟩ := PY_ok (w := win y) (m := mm y) (a := a) (d := d) (a' := a') (n := n) (j := j) q3 q2y hk40y (by omega) (by omega)
                      refine (in_all (P y) _ _ _ _ _ h7.p2 f1 f2 f3 f4 f5).mono ?_
                      clear f1 f2 f3 f4 f5
                      rintro e w4 ⟨ax, cx, outs, s, rfl, hpost, hwx, h8⟩
                      obtain ⟨ho, rfl⟩ := pro_in (w := win y) (my := mm y) pk hjL' hnk q1 q2y q3 HPK.out hpost
                      obtain ⟨g, hg⟩ : ∃ g, g = a + if n = 0 then 0 else j := ⟨_, rfl⟩
                      have hlen : outs.length ≤ 1 := by rw [ho]; split <;> simp
                      have hval : ∀ i (h : i < outs.length), outs[i] = [UInt8.ofNat g] := by
                        intro i h
                        by_cases h0 : n = 0
                        · exfalso; rw [ho, if_pos h0] at h; simp at h
                        · simp only [ho, if_neg h0] at h ⊢
                          simp only [hg, if_neg h0]
                          simp
                      have hsum : g + outs.length = a + if n = 0 then 0 else (j + 1) := by rw [hg, ho]; split <;> simp; omega
                      have hg2 : g ≤ 82 := by rw [hg]; split <;> omega
                      rw [← hg] at h8
                      obtain ⟨X, hX⟩ : ∃ X, X = outs.length := ⟨_, rfl⟩
                      rw [← hX] at hlen hwx hsum h8 ⊢
                      have HX := Lib.hid hX
                      have HSUM := Lib.hid hsum
                      have HVAL := Lib.hid hval
                      clear h7 hpost ho g00 g01 g02 ce hg hX hsum hval HPK hS
                      (refine hK _ _ (fun h => by cases h) ?_; clear hK K; (try simp only [Act.put, List.setIfInBounds_toArray, List.set_cons_zero, List.set_cons_succ]))
                      (repeat (first | (refine C_p (v := ?_) rfl rfl (fun w' => ?_) ?_; rotate_left; (go_simp; with_reducible rfl); simp only [Act.put, List.setIfInBounds_toArray, List.set_cons_zero, List.set_cons_succ]) | (refine C_s (v := ?_) rfl rfl hS0 (fun w' hS => ?_) ?_; rotate_left; ((try dsimp only at hS); go_simp; with_reducible rfl); simp only [Act.put, List.setIfInBounds_toArray, List.set_cons_zero, List.set_cons_succ]) | (refine C_t (v := ?_) rfl rfl ?_ ?_; rotate_left; (go_simp; with_reducible rfl); simp only [Act.put, List.setIfInBounds_toArray, List.set_cons_zero, List.set_cons_succ]) | (refine C_po rfl rfl ?_; simp only [Act.put, List.setIfInBounds_toArray, List.set_cons_zero, List.set_cons_succ]) | (refine C_so rfl rfl hS0 ?_; simp only [Act.put, List.setIfInBounds_toArray, List.set_cons_zero, List.set_cons_succ]) | (refine C_to rfl rfl ?_; simp only [Act.put, List.setIfInBounds_toArray, List.set_cons_zero, List.set_cons_succ])))
                      refine C_nil ?_
                      go_wp2_with fail
                      go_loopw [20] (ProR7 w gb k d g X (sep ((rBytes.slice 1).is [.slice ax X cx] outs) (sep (isEnd (P y) (PY (win y) (mm y) a d a' n (j + 1))) (sep ((rPkt.slice 3).is [.slice (some ⟨bp, op, none⟩) L cp] (outPkts (proSt 0 (mm k) a d o) n)) (sep (isEnd (P k) (proSt (win k) (mm k) a d false)) (ProE b bm P mm emp)))))) (fun i _ => X - (intOf i).toNat)
                      case atStart => exact ⟨0, by omega, rfl, h8.p4⟩
                      case round =>
                        clear h8
                        obtain ⟨r, hr, rfl, hS⟩ := hrel
                        by_cases hrX : r < X
                        · have hbr : decide ((r : Int) < (X : Int)) = true := by simp; omega
                          have hrXI : (r : Int) < (X : Int) := by omega
                          go_wp2_with fail
                          have hD := hS.drew
                          have cg : wr.drew.cell? ⟨gb, y, none⟩ = some (.int .i64 ((g + r : Nat) : Int)) := by
                            rw [hD.cell y, row2_get _ y hy2, gf, if_neg hyk]
                          have cf : wr.drew.frozen? ⟨gb, y, none⟩ = false := hD.unfrozen y
                          obtain ⟨bx, ox, cv, rfl, hcv, hcy, h9⟩ := hD.p1.slice_get r (by rw [← HX.out]; exact hrX) (by omega)
                          obtain ⟨vy, rfl⟩ : ∃ v, cv = [v] := by match cv, hcv with | [x], _ => exact ⟨x, rfl⟩
                          have gy := hcy 0 _ rfl
                          rw [HVAL.out r (by rw [← HX.out]; exact hrX)] at h9
                          obtain ⟨a3, k3, rfl, hw3, h10⟩ := h9.bytes_open
                          obtain ⟨b3, o3, rfl, hc3⟩ := h10.rsl_at (by simp)
                          have gz := hc3 0 _ rfl
                          simp at gy gz
                          have hgm : bv (UInt8.ofNat g) = .int .u8 ((g + r : Nat) : Int) := by
                            have : g % 256 = g + r := by omega
                            simp [bv, this]
                          rw [hgm] at gz
                          obtain ⟨G, hG⟩ : ∃ G, G = g + r := ⟨_, rfl⟩
                          have hG2 : G ≤ 82 := by omega
                          rw [← hG] at cg gz
                          have HG := Lib.hid hG
                          clear hG
                          have hGw : IntKind.i64.wrap (G : Int) = G := IntWalk.i64_in _ (by omega)
                          clear hD hcy hcv h9 h10 hc3 hgm
                          refine wp_region_canon rfl (fun _ => True) [(0, .p), (1, .p), (2, .p), (3, .t), (4, .p), (5, .p), (6, .p), (7, .p), (8, .p), (9, .p), (10, .t), (11, .p), (12, .t), (13, .p), (14, .p), (15, .p), (16, .p), (17, .p), (18, .t), (19, .p), (20, .p)] (by kernel_rfl) ?_
                          (repeat (first | (refine C_p (v := ?_) rfl rfl (fun w' => ?_) ?_; rotate_left; (go_simp; with_reducible rfl); simp only [Act.put, List.setIfInBounds_toArray, List.set_cons_zero, List.set_cons_succ]) | (refine C_s (v := ?_) rfl rfl hS0 (fun w' hS => ?_) ?_; rotate_left; ((try dsimp only at hS); go_simp; with_reducible rfl); simp only [Act.put, List.setIfInBounds_toArray, List.set_cons_zero, List.set_cons_succ]) | (refine C_t (v := ?_) rfl rfl ?_ ?_; rotate_left; (go_simp; with_reducible rfl); simp only [Act.put, List.setIfInBounds_toArray, List.set_cons_zero, List.set_cons_succ]) | (refine C_po rfl rfl ?_; simp only [Act.put, List.setIfInBounds_toArray, List.set_cons_zero, List.set_cons_succ]) | (refine C_so rfl rfl hS0 ?_; simp only [Act.put, List.setIfInBounds_toArray, List.set_cons_zero, List.set_cons_succ]) | (refine C_to rfl rfl ?_; simp only [Act.put, List.setIfInBounds_toArray, List.set_cons_zero, List.set_cons_succ])))
                          refine C_nil ?_
                          go_wp2_with fail
                          go_roundw
                          case rel =>
                            refine ⟨r + 1, by omega, by go_num, ?_⟩
                            have h := (hS.setCell y (.int .i64 ((G + 1 : Nat) : Int))).drew
                            rw [row2_set _ y hy2, gf_put k y d _ _ hk2 hy2 hyk, show G + 1 = g + (r + 1) by have := HG.out; omega] at h
                            rw [show (G : Int) + 1 = ((g + (r + 1) : Nat) : Int) by have := HG.out; omega]
                            exact h
                          case measure => simp [intOf]; omega
                        · have hbr : decide ((r : Int) < (X : Int)) = false := by simp; omega
                          go_wp2_with fail
                          go_roundw
                          case rel =>
                            refine ⟨j + 1, by omega, by go_num, ?_⟩
                            obtain rfl : r = X := by omega
                            have h := hS.p1.drop
                            rw [HSUM.out] at h
                            rw [← HY.out]
                            simpa only [sep_comm, sep_lcomm, sep_assoc] using h
                          case measure => simp [intOf]; omega
                    · have hbj : decide ((j : Int) < (L : Int)) = false := by simp; omega
                      go_wp2_with fail
                      go_roundw
                      case rel =>
                        obtain rfl : j = L := by omega
                        obtain ⟨e1, e2⟩ := PY_end (win (1 - k)) (mm (1 - k)) a d a' n o _ _ _ HL.out q4
                        have hk3 : (k + 1) % 2 = 1 - k := by omega
                        have hk4 : 1 - (1 - k) = k := by omega
                        have hw1k := hw1 k
                        have HN2 := HN.out
                        refine ⟨k + 1, d, a + n, a, decide (0 < n), by omega, by go_num, ⟨?_, ?_, ?_, ?_, ?_, ?_, ?_⟩, ?_⟩
                        · rw [hk3]; exact q2
                        · rw [hk3, hk4]; omega
                        · omega
                        · by_cases h0 : n = 0
                          · exact .inr (by omega)
                          · exact .inl (by simp; omega)
                        · rw [hk3]; exact q6
                        · rw [hk3, hk4]; omega
                        · rw [hk3, hk4]; omega
                        · rw [e1, e2, gf_turn k (1 - k) d (a + n) hk2 rfl] at hS
                          rw [hk3, isTwo_pick P _ k hk2]
                          rw [show PSt win mm (1 - k) d (a + n) a (decide (0 < n)) k = proSt (win k) (mm k) a d false by simp only [PSt]; rw [if_neg (by omega), hk4]]
                          rw [show PSt win mm (1 - k) d (a + n) a (decide (0 < n)) (1 - k) = proSt (win (1 - k)) (mm (1 - k)) d (a + n) (decide (0 < n)) by simp only [PSt, if_true]]
                          have h := hS.p3.drop
                          simpa only [sep_comm, sep_lcomm, sep_assoc] using h
                      case measure => simp [intOf]; omega
                · have hbk : decide ((k : Int) < 2) = false := by simp; omega
                  go_wp2_with fail
                  go_roundw
                  case rel =>
                    obtain rfl : k = 2 := by omega
                    exact ⟨i + 1, a, d, a', o, by omega, by go_num, hI, hS⟩
                  case measure => simp [intOf]; omega
            · have hbi : decide ((i : Int) ≤ (M : Int)) = false := by simp; omega
              go_wp2_with fail
              refine wp_region_canon rfl (fun _ => True) [(0, .p), (1, .p), (2, .p), (3, .t), (4, .p), (5, .p), (6, .t), (7, .p), (8, .p)] (by kernel_rfl) ?_
              (repeat (first | (refine C_p (v := ?_) rfl rfl (fun w' => ?_) ?_; rotate_left; (go_simp; with_reducible rfl); simp only [Act.put, List.setIfInBounds_toArray, List.set_cons_zero, List.set_cons_succ]) | (refine C_s (v := ?_) rfl rfl hS0 (fun w' hS => ?_) ?_; rotate_left; ((try dsimp only at hS); go_simp; with_reducible rfl); simp only [Act.put, List.setIfInBounds_toArray, List.set_cons_zero, List.set_cons_succ]) | (refine C_t (v := ?_) rfl rfl ?_ ?_; rotate_left; (go_simp; with_reducible rfl); simp only [Act.put, List.setIfInBounds_toArray, List.set_cons_zero, List.set_cons_succ]) | (refine C_po rfl rfl ?_; simp only [Act.put, List.setIfInBounds_toArray, List.set_cons_zero, List.set_cons_succ]) | (refine C_so rfl rfl hS0 ?_; simp only [Act.put, List.setIfInBounds_toArray, List.set_cons_zero, List.set_cons_succ]) | (refine C_to rfl rfl ?_; simp only [Act.put, List.setIfInBounds_toArray, List.set_cons_zero, List.set_cons_succ])))
              refine C_nil ?_
              go_wp2_with fail
              obtain ⟨q1, q2, q3, q4, q5, q6, q7⟩ := hI
              have hMM := HM.out
              obtain rfl : a = mm 0 := by simp at q1 q5; omega
              obtain rfl : d = mm 1 := by simp at q2 q6; omega
              obtain rfl : a' = mm 1 := by simp at q3 q7; omega
              clear q1 q2 q3 q4 q5 q6 q7 hMM c0 c1
              have hD := hS.drew.drew
              have e0 : wr.drew.drew.cell? ⟨gb, 0, none⟩ = some (.int .i64 (mm 1)) := by rw [hD.p1.cell 0]; rfl
              have e1 : wr.drew.drew.cell? ⟨gb, 1, none⟩ = some (.int .i64 (mm 0)) := by rw [hD.p1.cell 1]; rfl
              obtain ⟨d0, c0⟩ := ProE_cells hD.p1.drop 0 (by omega)
              obtain ⟨d1, c1⟩ := ProE_cells hD.p1.drop 1 (by omega)
              clear hD
              refine wp_region_canon rfl (fun _ => True) [(0, .p), (1, .p), (2, .t), (3, .p), (4, .p), (5, .t), (6, .p), (7, .p), (8, .p), (9, .p), (10, .t), (11, .p), (12, .p), (13, .t), (14, .p), (15, .p), (16, .p), (17, .p), (18, .p), (19, .t), (20, .e false), (21, .p), (22, .p), (23, .p), (24, .p), (25, .p), (26, .t), (27, .e false), (28, .p), (29, .p), (30, .p), (31, .e false), (32, .p), (33, .p)] (by kernel_rfl) ?_
              (repeat (first | (refine C_p (v := ?_) rfl rfl (fun w' => ?_) ?_; rotate_left; (go_simp; with_reducible rfl); simp only [Act.put, List.setIfInBounds_toArray, List.set_cons_zero, List.set_cons_succ]) | (refine C_s (v := ?_) rfl rfl hS0 (fun w' hS => ?_) ?_; rotate_left; ((try dsimp only at hS); go_simp; with_reducible rfl); simp only [Act.put, List.setIfInBounds_toArray, List.set_cons_zero, List.set_cons_succ]) | (refine C_t (v := ?_) rfl rfl ?_ ?_; rotate_left; (go_simp; with_reducible rfl); simp only [Act.put, List.setIfInBounds_toArray, List.set_cons_zero, List.set_cons_succ]) | (refine C_po rfl rfl ?_; simp only [Act.put, List.setIfInBounds_toArray, List.set_cons_zero, List.set_cons_succ]) | (refine C_so rfl rfl hS0 ?_; simp only [Act.put, List.setIfInBounds_toArray, List.set_cons_zero, List.set_cons_succ]) | (refine C_to rfl rfl ?_; simp only [Act.put, List.setIfInBounds_toArray, List.set_cons_zero, List.set_cons_succ])))
              (refine C_e rfl rfl (fun K hK => ?_); go_simp)
              have h5 : Sat w wr.drew.drew (sep (isEnd (P 0) (proSt (win 0) (mm 0) (mm 0) (mm 1) o)) (sep (isEnd (P 1) (proSt (win 1) (mm 1) (mm 1) (mm 0) false)) (sep (blk gb (.cells (row2 (gf 0 (mm 1) (mm 0))) 3 (0, 0))) (ProE b bm P mm emp)))) := hS.drew.drew.twoPick 0 (by omega)
              clear hS
              refine (waiting_spec (P 0) _ h5).mono ?_
              rintro e w4 ⟨he, h6⟩
              rw [show ((proSt (win 0) (mm 0) (mm 0) (mm 1) o).wait.length : Int) = 0 by simp [proSt, msgs_len]] at he
              subst he
              clear h5 e0 e1 c0 c1 d0 d1
              obtain ⟨d1, -⟩ := ProE_cells h6.drop.drop 1 (by omega)
              (refine hK _ _ (fun h => by cases h) ?_; clear hK K; (try simp only [Act.put, List.setIfInBounds_toArray, List.set_cons_zero, List.set_cons_succ]))
              (repeat (first | (refine C_p (v := ?_) rfl rfl (fun w' => ?_) ?_; rotate_left; (go_simp; with_reducible rfl); simp only [Act.put, List.setIfInBounds_toArray, List.set_cons_zero, List.set_cons_succ]) | (refine C_s (v := ?_) rfl rfl hS0 (fun w' hS => ?_) ?_; rotate_left; ((try dsimp only at hS); go_simp; with_reducible rfl); simp only [Act.put, List.setIfInBounds_toArray, List.set_cons_zero, List.set_cons_succ]) | (refine C_t (v := ?_) rfl rfl ?_ ?_; rotate_left; (go_simp; with_reducible rfl); simp only [Act.put, List.setIfInBounds_toArray, List.set_cons_zero, List.set_cons_succ]) | (refine C_po rfl rfl ?_; simp only [Act.put, List.setIfInBounds_toArray, List.set_cons_zero, List.set_cons_succ]) | (refine C_so rfl rfl hS0 ?_; simp only [Act.put, List.setIfInBounds_toArray, List.set_cons_zero, List.set_cons_succ]) | (refine C_to rfl rfl ?_; simp only [Act.put, List.setIfInBounds_toArray, List.set_cons_zero, List.set_cons_succ])))
              (refine C_e rfl rfl (fun K hK => ?_); go_simp)
              refine (waiting_spec (P 1) _ h6.p1).mono ?_
              rintro e w5 ⟨he, h7⟩
              rw [show ((proSt (win 1) (mm 1) (mm 1) (mm 0) false).wait.length : Int) = 0 by simp [proSt, msgs_len]] at he
              subst he
              clear h6 d1
              (refine hK _ _ (fun h => by cases h) ?_; clear hK K; (try simp only [Act.put, List.setIfInBounds_toArray, List.set_cons_zero, List.set_cons_succ]))
              (repeat (first | (refine C_p (v := ?_) rfl rfl (fun w' => ?_) ?_; rotate_left; (go_simp; with_reducible rfl); simp only [Act.put, List.setIfInBounds_toArray, List.set_cons_zero, List.set_cons_succ]) | (refine C_s (v := ?_) rfl rfl hS0 (fun w' hS => ?_) ?_; rotate_left; ((try dsimp only at hS); go_simp; with_reducible rfl); simp only [Act.put, List.setIfInBounds_toArray, List.set_cons_zero, List.set_cons_succ]) | (refine C_t (v := ?_) rfl rfl ?_ ?_; rotate_left; (go_simp; with_reducible rfl); simp only [Act.put, List.setIfInBounds_toArray, List.set_cons_zero, List.set_cons_succ]) | (refine C_po rfl rfl ?_; simp only [Act.put, List.setIfInBounds_toArray, List.set_cons_zero, List.set_cons_succ]) | (refine C_so rfl rfl hS0 ?_; simp only [Act.put, List.setIfInBounds_toArray, List.set_cons_zero, List.set_cons_succ]) | (refine C_to rfl rfl ?_; simp only [Act.put, List.setIfInBounds_toArray, List.set_cons_zero, List.set_cons_succ])))
              (refine C_e rfl rfl (fun K hK => ?_); go_simp)
              refine (lives36_spec h7).mono ?_
              rintro e w6 ⟨rfl, h8⟩
              (refine hK _ _ (fun h => by cases h) ?_; clear hK K; (try simp only [Act.put, List.setIfInBounds_toArray, List.set_cons_zero, List.set_cons_succ]))
              (repeat (first | (refine C_p (v := ?_) rfl rfl (fun w' => ?_) ?_; rotate_left; (go_simp; with_reducible rfl); simp only [Act.put, List.setIfInBounds_toArray, List.set_cons_zero, List.set_cons_succ]) | (refine C_s (v := ?_) rfl rfl hS0 (fun w' hS => ?_) ?_; rotate_left; ((try dsimp only at hS); go_simp; with_reducible rfl); simp only [Act.put, List.setIfInBounds_toArray, List.set_cons_zero, List.set_cons_succ]) | (refine C_t (v := ?_) rfl rfl ?_ ?_; rotate_left; (go_simp; with_reducible rfl); simp only [Act.put, List.setIfInBounds_toArray, List.set_cons_zero, List.set_cons_succ]) | (refine C_po rfl rfl ?_; simp only [Act.put, List.setIfInBounds_toArray, List.set_cons_zero, List.set_cons_succ]) | (refine C_so rfl rfl hS0 ?_; simp only [Act.put, List.setIfInBounds_toArray, List.set_cons_zero, List.set_cons_succ]) | (refine C_to rfl rfl ?_; simp only [Act.put, List.setIfInBounds_toArray, List.set_cons_zero, List.set_cons_succ])))
              refine C_nil ?_
              go_wp2_with fail
              go_ret
              exact ⟨rfl, h8.below⟩
end Go.Proofs.Ytnmkdidhilekiaa
