/- The reference model of package channel: an end as data; its small functions. -/
import Derived.Test.YtnmkdidhilekiaaEnds
import Derived.Lib.SliceRun
import Derived.Handy
namespace Go.Proofs.Ytnmkdidhilekiaa
open Go.RowKit PA
theorem osl_row_at {W w : World} {A : Assn} {α : Type} {R : Rep α} {E k : Nat} {a : Option Addr} {c : Nat} {cs : List Value} {xs : List α} (hk : 0 < k) (h : Sat W w (sep (osl E k a xs.length c cs) (sep ((R.rows k).is cs xs) A))) (i : Nat) (hi : i < xs.length) :
    ∃ g cv, a = some ⟨g, 0, none⟩ ∧ cv.length = k ∧ (∀ j u, cv[j]? = some u → w.cell? ⟨g, i * k + j, none⟩ = some u) ∧ Sat W w (sep (R.is cv xs[i]) (sep (osl E k a xs.length c cs) (sep ((R.rows k).is cs xs) A))) := by
  have hl := h.osl_len
  have hne : cs ≠ [] := by
    intro e
    rw [e] at hl
    have : 0 < xs.length * k := Nat.mul_pos (by omega) hk
    simp at hl
    omega
  obtain ⟨g, rfl, hc⟩ := h.osl_at hne
  obtain ⟨cv, h1, h2, h3⟩ := h.p1.rows_get i hi
  refine ⟨g, cv, rfl, h1, fun j u hu => hc _ _ ?_, by simpa only [sep_comm, sep_lcomm, sep_assoc] using h3⟩
  have hj : j < k := by rw [← h1]; exact (List.getElem?_eq_some_iff.1 hu).1
  rw [h2 j hj]; exact hu
structure MEnd where
  win : Int
  sent : List (List UInt8)
  acked : Nat
  got : Nat
  held : List (Int × List UInt8)
  ow : Bool
def mlook (l : List (Int × List UInt8)) (q : Int) : Option (List UInt8) := (l.find? fun x => x.1 == q).map (·.2)
/-- What the model says of an end. -/
def absM (m : MEnd) : AEnd := ⟨m.win, m.sent.drop m.acked, m.acked, m.got, mlook m.held, m.ow⟩
def rHeld : Rep (Int × List UInt8) where
  rel I cs x := ∃ v, cs = [.int .i64 x.1, v] ∧ rBytes.rel I [v] x.2
  mono hl := fun ⟨v, h1, h2⟩ => ⟨v, h1, rBytes.mono hl h2⟩
theorem rHeld_one (I : Mem) (c : List Value) (x : Int × List UInt8) (h : rHeld.rel I c x) : ∀ u ∈ c, u.oneCell' = true := by
  obtain ⟨v, rfl, h2⟩ := h
  intro u hu
  simp at hu
  rcases hu with rfl | rfl
  · rfl
  · exact rBytes_one I [u] x.2 h2 u (by simp)
def mCells (m : MEnd) (aS : Option Addr) (cS : Nat) (aH : Option Addr) (cH : Nat) : Array Value := #[.int .i64 m.win, .slice aS m.sent.length cS, .int .i64 m.acked, .int .i64 m.got, .slice aH m.held.length cH, .bool m.ow]
def mAt (p : Nat) (m : MEnd) (aS : Option Addr) (cS : Nat) (vS : List Value) (aH : Option Addr) (cH : Nat) (vH : List Value) : Assn :=
  sep (blk p (.cells (mCells m aS cS aH cH) 50 (0, 0))) (sep (osl 31 1 aS m.sent.length cS vS) (sep ((rBytes.rows 1).is vS m.sent) (sep (osl 91 2 aH m.held.length cH vH) ((rHeld.rows 2).is vH m.held))))
def isM (p : Nat) (m : MEnd) : Assn := ex fun aS => ex fun cS => ex fun vS => ex fun aH => ex fun cH => ex fun vH => mAt p m aS cS vS aH cH vH
theorem isM_open {W w : World} {A : Assn} {p : Nat} {m : MEnd} (h : Sat W w (sep (isM p m) A)) : ∃ aS cS vS aH cH vH, Sat W w (sep (mAt p m aS cS vS aH cH vH) A) := by
  simp only [isM, ex_sep, Sat.ex] at h
  exact h
theorem isM_mk {W w : World} {A : Assn} {p : Nat} {m : MEnd} {aS : Option Addr} {cS : Nat} {vS : List Value} {aH : Option Addr} {cH : Nat} {vH : List Value} (h : Sat W w (sep (mAt p m aS cS vS aH cH vH) A)) : Sat W w (sep (isM p m) A) := by
  simp only [isM, ex_sep, Sat.ex]
  exact ⟨_, _, _, _, _, _, h⟩
def newM (win : Int) : MEnd := ⟨win, [], 0, 0, [], false⟩
theorem abs_new (win : Int) : absM (newM win) = newEnd win := rfl
set_option maxHeartbeats 400000 in
theorem rnew_spec {W w : World} {A : Assn} (win : Int) (h : Sat W w A) (h1 : 1 ≤ win) (h2 : win ≤ 16) :
    Calls Try.prog 11 #[.int .i64 win] w fun e w' => ∃ p, e = .returned (.tuple #[.pointer (some ⟨p, 0, none⟩), .bool true]) ∧ Sat W w' (sep (isM p (newM win)) A) := by
  go_enter Try.func11, Try.ntmps11
  go_wp2
  go_ret2
  refine ⟨_, rfl, ?_⟩
  show Sat W (w.alloc (.cells (mCells (newM win) none 0 none 0) 50)) _
  have h4 := ((((h.alloc (.cells (mCells (newM win) none 0 none 0) 50)).osl_nil 31 1).rows_nil rBytes 1).osl_nil 91 2).rows_nil rHeld 2
  refine isM_mk (m := newM win) (aS := none) (cS := 0) (vS := []) (aH := none) (cH := 0) (vH := []) ?_
  simpa only [mAt, newM, List.length_nil, sep_comm, sep_lcomm, sep_assoc] using h4
set_option maxHeartbeats 1000000 in
set_option maxRecDepth 100000 in
theorem rsend_spec {W w : World} {A : Assn} (p : Nat) (m : MEnd) (v : Value) (bs : List UInt8) (h : Sat W w (sep (isM p m) (sep (rBytes.is [v] bs) A))) (hn : bs.length ≤ 65536) (hl : m.sent.length < 1000) (ha : m.acked ≤ m.sent.length) :
    Calls Try.prog 14 #[.pointer (some ⟨p, 0, none⟩), v] w fun e w' => e = .returned (.int .i64 0) ∧ Sat W w' (sep (isM p { m with sent := m.sent ++ [bs] }) A) := by
  obtain ⟨aS, cS, vS, aH, cH, vH, h⟩ := isM_open h
  simp only [mAt, sep_assoc] at h
  obtain ⟨ab, cb, rfl, hwf, hb⟩ := h.p5.bytes_open
  obtain ⟨l, hll⟩ : ∃ l, l = m.sent.length := ⟨_, rfl⟩
  obtain ⟨d, hd⟩ : ∃ d, d = l - m.acked := ⟨_, rfl⟩
  have hsub : (l : Int) - (m.acked : Int) = d := by omega
  have hsub2 : IntKind.i64.wrap (l - m.acked : Int) = (d : Int) := by rw [hsub]; exact IntWalk.i64_in _ (by omega)
  have hsub3 : IntKind.i64.wrap (d : Int) = (d : Int) := IntWalk.i64_in _ (by omega)
  have hd2 : d < 1000 := by omega
  have hD := h.drew
  have c1 : w.drew.cell? ⟨p, 1, none⟩ = some (.slice aS l cS) := by rw [hll]; exact hD.cell 1
  have c2 : w.drew.cell? ⟨p, 2, none⟩ = some (.int .i64 m.acked) := hD.cell 2
  have f1 : w.drew.frozen? ⟨p, 1, none⟩ = false := hD.unfrozen 1
  have HLL := Lib.hid hll
  have g2 : l < 1000 := by omega
  rw [← hll] at hD
  obtain ⟨nb, hnb⟩ : ∃ nb, nb = bs.length := ⟨_, rfl⟩
  rw [← hnb] at hD hn ⊢
  have HN := Lib.hid hnb
  have k1 : decide (65536 < (nb : Int)) = false := by simp; omega
  have k2 : decide (65536 < nb) = false := by simp; omega
  have k3 : (65536 < nb) = False := by simp; omega
  have k4 : decide (1000 ≤ d) = false := by simp; omega
  have k5 : (1000 ≤ d) = False := by simp; omega
  have hA := hD.p1.alloc0 (.cells #[.slice ab nb cb] 31)
  have hS0 : True := trivial
  clear hll hd h hnb hb hwf
  go_enter Try.func14, Try.ntmps14
  go_wp2
  refine wp_region_canon rfl (fun _ => True) [(0, .p), (1, .p), (2, .p), (3, .p), (4, .p), (5, .p), (6, .p), (7, .t), (8, .p), (9, .p), (10, .p), (11, .p), (12, .t), (13, .p), (14, .p), (15, .p)] (by kernel_rfl) ?_
  (repeat (first | (refine C_p (v := ?_) rfl rfl (fun w' => ?_) ?_; rotate_left; (go_simp; with_reducible rfl); simp only [Act.put, List.setIfInBounds_toArray, List.set_cons_zero, List.set_cons_succ]) | (refine C_s (v := ?_) rfl rfl hS0 (fun w' hS => ?_) ?_; rotate_left; ((try dsimp only at hS); go_simp; with_reducible rfl); simp only [Act.put, List.setIfInBounds_toArray, List.set_cons_zero, List.set_cons_succ]) | (refine C_t (v := ?_) rfl rfl ?_ ?_; rotate_left; (go_simp; with_reducible rfl); simp only [Act.put, List.setIfInBounds_toArray, List.set_cons_zero, List.set_cons_succ]) | (refine C_po rfl rfl ?_; simp only [Act.put, List.setIfInBounds_toArray, List.set_cons_zero, List.set_cons_succ]) | (refine C_so rfl rfl hS0 ?_; simp only [Act.put, List.setIfInBounds_toArray, List.set_cons_zero, List.set_cons_succ]) | (refine C_to rfl rfl ?_; simp only [Act.put, List.setIfInBounds_toArray, List.set_cons_zero, List.set_cons_succ])))
  refine C_nil ?_
  go_wp2_with (at_builtin; refine wpl_append_osl rfl (.tmp 25) (.tmp 27) 42 rfl 31 1 24 (.slice none 0 0) Try.underlying42 infoBytes rfl rfl hA rfl [.slice ab nb cb] rfl (by simp) (by intro b hb; cases hb; exact new_src _ [_] _) (by simp [Value.oneCell']) (by omega) (by unfold maxLen; omega) ?_)
  intro a2 c2 w2 hS2
  have e1 : w2.cell? ⟨p, 1, none⟩ = some (.slice aS l cS) := by rw [HLL.out]; exact hS2.p1.cell 1
  have e2 : w2.frozen? ⟨p, 1, none⟩ = false := hS2.p1.unfrozen 1
  clear c1 f1 hA hD
  go_wp2
  go_ret
  refine ⟨rfl, ?_⟩
  have h3 := hS2.p1.setCell 1 (.slice a2 (l + 1) c2)
  rw [HN.out] at h3
  have h4 := h3.p5.p3.snoc rfl
  refine isM_mk (aS := a2) (cS := c2) (vS := vS ++ [.slice ab bs.length cb]) (aH := aH) (cH := cH) (vH := vH) ?_
  simp only [mAt, mCells, List.length_append, List.length_singleton]
  rw [← HLL.out]
  rw [show (mCells m aS cS aH cH).setIfInBounds 1 (.slice a2 (l + 1) c2) = #[.int .i64 m.win, .slice a2 (l + 1) c2, .int .i64 m.acked, .int .i64 m.got, .slice aH m.held.length cH, .bool m.ow] from rfl] at h4
  simpa only [sep_comm, sep_lcomm, sep_assoc] using h4
set_option maxHeartbeats 1000000 in
theorem rvalid_spec {W w : World} {A : Assn} (s a : Int) (b : Option Addr) (l c : Nat) (h : Sat W w A) (hl : l ≤ maxLen) :
    Calls Try.prog 45 #[.agg #[.int .i64 s, .int .i64 a, .slice b l c]] w fun e w' => e = .returned (.bool (validB s a l)) ∧ Sat W w' A := by
  have hl' : (l : Int) ≤ 9223372036854775807 := by unfold maxLen at hl; omega
  clear hl
  by_cases h1 : 0 ≤ s <;> by_cases h2 : 0 ≤ a <;> by_cases h3 : l ≤ 65536 <;> by_cases h4 : 0 < s <;> by_cases h5 : l = 0 <;> (try (exfalso; omega)) <;>
    (go_enter Try.func45, Try.ntmps45; go_wp2; go_ret; refine ⟨?_, h.alloc0 _⟩; simp [validB, h1, h2, h3, h4, h5]; try (rw [show ((l : Int) == 0) = false by simp; omega, show decide (0 < s) = false by simp; omega]))
theorem of_spec {W w : World} {A : Assn} (s a : Int) (b : Option Addr) (l c : Nat) (h : Sat W w A) :
    Calls Try.prog 20 #[.agg #[.int .i64 s, .int .i64 a, .slice b l c]] w fun e w' => e = .returned (.agg #[.int .i64 s, .int .i64 a, .slice b l c]) ∧ (∀ a u, w.cell? a = some u → w'.cell? a = some u) ∧ Sat W w' A := by
  go_enter Try.func20, Try.ntmps20
  go_wp2_with fail
  go_returns
  refine ⟨rfl, fun a u h => ?_, (h.alloc0 _).alloc0 _⟩
  have hb := World.block_lt_of_cell? w _ h
  rw [World.cell?_alloc_lt _ _ _ (by rw [World.size_alloc]; omega), World.cell?_alloc_lt _ _ _ hb]
  exact h
theorem plain_spec {W w : World} {A : Assn} (s a : Int) (b : Option Addr) (l c : Nat) (h : Sat W w A) :
    Calls Try.prog 30 #[.agg #[.int .i64 s, .int .i64 a, .slice b l c]] w fun e w' => e = .returned (.agg #[.int .i64 s, .int .i64 a, .slice b l c]) ∧ (∀ a u, w.cell? a = some u → w'.cell? a = some u) ∧ Sat W w' A := by
  go_enter Try.func30, Try.ntmps30
  go_wp2_with fail
  go_returns
  refine ⟨rfl, fun a u h => ?_, (h.alloc0 _).alloc0 _⟩
  have hb := World.block_lt_of_cell? w _ h
  rw [World.cell?_alloc_lt _ _ _ (by rw [World.size_alloc]; omega), World.cell?_alloc_lt _ _ _ hb]
  exact h
theorem rsame_spec {W w : World} {A : Assn} (s a : Int) (v u : Value) (bs : List UInt8) (h : Sat W w (sep (rBytes.is [v] bs) (sep (rBytes.is [u] bs) A))) :
    Calls Try.prog 34 #[.agg #[.int .i64 s, .int .i64 a, v], .agg #[.int .i64 s, .int .i64 a, u]] w fun e w' => e = .returned (.bool true) ∧ Sat W w' (sep (rBytes.is [v] bs) (sep (rBytes.is [u] bs) A)) := by
  obtain ⟨a1, c1, rfl, -, -⟩ := h.bytes_open
  obtain ⟨a2, c2, rfl, -, -⟩ := h.p1.bytes_open
  have f1 : (s == s) = true := by simp
  have f2 : (a == a) = true := by simp
  have hA := (h.alloc0 (.cells #[.int .i64 s, .int .i64 a, .slice a1 bs.length c1] 40)).alloc0 (.cells #[.int .i64 s, .int .i64 a, .slice a2 bs.length c2] 40)
  go_enter Try.func34, Try.ntmps34
  go_wp2_with fail
  refine (sameBytes_spec _ _ _ _ hA).mono ?_
  rintro e w1 ⟨rfl, h1⟩
  rw [decide_eq_true rfl]
  go_wp2_with fail
  go_ret
  exact ⟨rfl, h1⟩
set_option maxHeartbeats 1000000 in
theorem sameLists_spec {W w : World} {A : Assn} (a1 a2 : Option Addr) (n c1 c2 : Nat) (xs : List (List UInt8)) (hn : xs.length = n) (hw1 : Swf a1 n c1) (h : Sat W w (sep ((rBytes.slice 1).is [.slice a1 n c1] xs) (sep ((rBytes.slice 1).is [.slice a2 n c2] xs) A))) :
    Calls Try.prog 18 #[.slice a1 n c1, .slice a2 n c2] w fun e w' => e = .returned (.bool true) ∧ Sat W w' A := by
  have hn2 : n ≤ 9223372036854775807 := by have := hw1.1; have := hw1.2.1; unfold maxLen at this; omega
  have f1 : ((n : Int) != (n : Int)) = false := by simp
  have HN := Lib.hid hn
  clear hn hw1
  go_enter Try.func18, Try.ntmps18
  go_wp2
  go_loopw [5] (fun i wr => ∃ k : Nat, k ≤ n ∧ i = .int .i64 k ∧ Sat W wr (sep ((rBytes.slice 1).is [.slice a1 n c1] xs) (sep ((rBytes.slice 1).is [.slice a2 n c2] xs) A))) (fun i _ => n - (intOf i).toNat)
  case atStart => exact ⟨0, by omega, rfl, h⟩
  case round =>
    clear h
    obtain ⟨k, hk, rfl, hS⟩ := hrel
    by_cases hlt : k < n
    · have g1 : decide ((k : Int) < (n : Int)) = true := by simp; omega
      have g2 : (k : Int) < (n : Int) := by omega
      have hD := hS.drew
      obtain ⟨b1, o1, cv, rfl, hcv, hc, h9⟩ := hD.slice_get k (by rw [HN.out]; exact hlt) (by omega)
      obtain ⟨v, rfl⟩ : ∃ v, cv = [v] := by match cv, hcv with | [x], _ => exact ⟨x, rfl⟩
      obtain ⟨b2, o2, cu, rfl, hcu, hd, h10⟩ := h9.p2.slice_get k (by rw [HN.out]; exact hlt) (by omega)
      obtain ⟨u, rfl⟩ : ∃ v, cu = [v] := by match cu, hcu with | [x], _ => exact ⟨x, rfl⟩
      have e1 := hc 0 _ rfl
      have e2 := hd 0 _ rfl
      simp at e1 e2
      have h11 := h10.p2
      have hS0 : True := trivial
      clear hD hc hd h9 h10
      go_wp2_with fail
      refine wp_region_canon rfl (fun _ => True) [(0, .p), (1, .p), (2, .p), (3, .t), (4, .p), (5, .p), (6, .p), (7, .t), (8, .e false), (9, .p)] (by kernel_rfl) ?_
      (repeat (first | (refine C_p (v := ?_) rfl rfl (fun w' => ?_) ?_; rotate_left; (go_simp; with_reducible rfl); simp only [Act.put, List.setIfInBounds_toArray, List.set_cons_zero, List.set_cons_succ]) | (refine C_s (v := ?_) rfl rfl hS0 (fun w' hS => ?_) ?_; rotate_left; ((try dsimp only at hS); go_simp; with_reducible rfl); simp only [Act.put, List.setIfInBounds_toArray, List.set_cons_zero, List.set_cons_succ]) | (refine C_t (v := ?_) rfl rfl ?_ ?_; rotate_left; (go_simp; with_reducible rfl); simp only [Act.put, List.setIfInBounds_toArray, List.set_cons_zero, List.set_cons_succ]) | (refine C_po rfl rfl ?_; simp only [Act.put, List.setIfInBounds_toArray, List.set_cons_zero, List.set_cons_succ]) | (refine C_so rfl rfl hS0 ?_; simp only [Act.put, List.setIfInBounds_toArray, List.set_cons_zero, List.set_cons_succ]) | (refine C_to rfl rfl ?_; simp only [Act.put, List.setIfInBounds_toArray, List.set_cons_zero, List.set_cons_succ])))
      (refine C_e rfl rfl (fun K hK => ?_); go_simp)
      refine (sameBytes_spec _ _ _ _ h11).mono ?_
      rintro e w1 ⟨rfl, h12⟩
      rw [decide_eq_true rfl]
      (refine hK _ _ (fun h => by cases h) ?_; clear hK K; (try simp only [Act.put, List.setIfInBounds_toArray, List.set_cons_zero, List.set_cons_succ]))
      (repeat (first | (refine C_p (v := ?_) rfl rfl (fun w' => ?_) ?_; rotate_left; (go_simp; with_reducible rfl); simp only [Act.put, List.setIfInBounds_toArray, List.set_cons_zero, List.set_cons_succ]) | (refine C_s (v := ?_) rfl rfl hS0 (fun w' hS => ?_) ?_; rotate_left; ((try dsimp only at hS); go_simp; with_reducible rfl); simp only [Act.put, List.setIfInBounds_toArray, List.set_cons_zero, List.set_cons_succ]) | (refine C_t (v := ?_) rfl rfl ?_ ?_; rotate_left; (go_simp; with_reducible rfl); simp only [Act.put, List.setIfInBounds_toArray, List.set_cons_zero, List.set_cons_succ]) | (refine C_po rfl rfl ?_; simp only [Act.put, List.setIfInBounds_toArray, List.set_cons_zero, List.set_cons_succ]) | (refine C_so rfl rfl hS0 ?_; simp only [Act.put, List.setIfInBounds_toArray, List.set_cons_zero, List.set_cons_succ]) | (refine C_to rfl rfl ?_; simp only [Act.put, List.setIfInBounds_toArray, List.set_cons_zero, List.set_cons_succ])))
      refine C_nil ?_
      clear e1 e2 h11 hS
      go_wp2_with fail
      go_roundw
      case rel => exact ⟨k + 1, by omega, by go_num, h12.drop.drop.p1⟩
      case measure => simp [intOf]; omega
    · have g1 : decide ((k : Int) < (n : Int)) = false := by simp; omega
      go_wp2_with fail
      go_ret
      exact ⟨rfl, hS.drop.drop⟩
set_option maxHeartbeats 1000000 in
theorem same36_spec {W w : World} {A : Assn} (a1 a2 : Option Addr) (n c1 c2 : Nat) (xs : List Pkt) (hn : xs.length = n) (hw1 : Swf a1 n c1) (h : Sat W w (sep ((rPkt.slice 3).is [.slice a1 n c1] xs) (sep ((rPkt.slice 3).is [.slice a2 n c2] xs) A))) :
    Calls Try.prog 17 #[.slice a1 n c1, .slice a2 n c2] w fun e w' => e = .returned (.bool true) ∧ Sat W w' (sep ((rPkt.slice 3).is [.slice a2 n c2] xs) A) := by
  have hn2 : n ≤ 9223372036854775807 := by have := hw1.1; have := hw1.2.1; unfold maxLen at this; omega
  have f1 : ((n : Int) != (n : Int)) = false := by simp
  have HN := Lib.hid hn
  clear hn hw1
  go_enter Try.func17, Try.ntmps17
  go_wp2
  go_loopw [5] (fun i wr => ∃ k : Nat, k ≤ n ∧ i = .int .i64 k ∧ Sat W wr (sep ((rPkt.slice 3).is [.slice a1 n c1] xs) (sep ((rPkt.slice 3).is [.slice a2 n c2] xs) A))) (fun i _ => n - (intOf i).toNat)
  case atStart => exact ⟨0, by omega, rfl, h⟩
  case round =>
    clear h
    obtain ⟨k, hk, rfl, hS⟩ := hrel
    by_cases hlt : k < n
    · have g1 : decide ((k : Int) < (n : Int)) = true := by simp; omega
      have g2 : (k : Int) < (n : Int) := by omega
      have hkx : k < xs.length := by rw [HN.out]; exact hlt
      have hD := hS.drew
      obtain ⟨b1, o1, v, rfl, e0, e1, e2, h9⟩ := pkt_get hD k hkx
      obtain ⟨b2, o2, u, rfl, d0, d1, d2, h10⟩ := pkt_get h9.p2 k hkx
      obtain ⟨pk, hpk⟩ : ∃ pk, pk = xs[k] := ⟨_, rfl⟩
      rw [← hpk] at e0 e1 d0 d1 h10
      have h11 : Sat W wr.drew (sep (rBytes.is [v] pk.b) (sep (rBytes.is [u] pk.b) (sep ((rPkt.slice 3).is [.slice (some ⟨b1, o1, none⟩) n c1] xs) (sep ((rPkt.slice 3).is [.slice (some ⟨b2, o2, none⟩) n c2] xs) A)))) := by
        simpa only [sep_comm, sep_lcomm, sep_assoc] using h10
      obtain ⟨av, cv, rfl, -, -⟩ := h11.bytes_open
      obtain ⟨au, cu, rfl, -, -⟩ := h11.p1.bytes_open
      have HKX := Lib.hid hkx
      have hcell : ∀ w' : World, Sat W w' (sep (rBytes.is [.slice av pk.b.length cv] pk.b) (sep (rBytes.is [.slice au pk.b.length cu] pk.b) (sep ((rPkt.slice 3).is [.slice (some ⟨b1, o1, none⟩) n c1] xs) (sep ((rPkt.slice 3).is [.slice (some ⟨b2, o2, none⟩) n c2] xs) A)))) → True := fun _ _ => trivial
      clear hD h9 h10 hpk hS hcell
      have hS0 : wr.drew.cell? ⟨b2, o2 + k * 3, none⟩ = some (.int .i64 pk.seq) ∧ wr.drew.cell? ⟨b2, o2 + k * 3 + 1, none⟩ = some (.int .i64 pk.ack) ∧ wr.drew.cell? ⟨b2, o2 + k * 3 + 2, none⟩ = some (.slice au pk.b.length cu) := ⟨d0, d1, d2⟩
      have hlt0 := World.block_lt_of_cell? wr.drew _ d0
      clear d0 d1 d2
      go_wp2_with fail
      refine wp_region_canon rfl (fun w' => w'.cell? ⟨b2, o2 + k * 3, none⟩ = some (.int .i64 pk.seq) ∧ w'.cell? ⟨b2, o2 + k * 3 + 1, none⟩ = some (.int .i64 pk.ack) ∧ w'.cell? ⟨b2, o2 + k * 3 + 2, none⟩ = some (.slice au pk.b.length cu)) [(0, .p), (1, .p), (2, .p), (3, .t), (5, .p), (6, .p), (7, .p), (8, .s), (4, .e true), (9, .e false), (10, .p)] (by kernel_rfl) ?_
      (repeat (first | (refine C_p (v := ?_) rfl rfl (fun w' => ?_) ?_; rotate_left; (go_simp; with_reducible rfl); simp only [Act.put, List.setIfInBounds_toArray, List.set_cons_zero, List.set_cons_succ]) | (refine C_s (v := ?_) rfl rfl hS0 (fun w' hS => ?_) ?_; rotate_left; ((try dsimp only at hS); go_simp; with_reducible rfl); simp only [Act.put, List.setIfInBounds_toArray, List.set_cons_zero, List.set_cons_succ]) | (refine C_t (v := ?_) rfl rfl ?_ ?_; rotate_left; (go_simp; with_reducible rfl); simp only [Act.put, List.setIfInBounds_toArray, List.set_cons_zero, List.set_cons_succ]) | (refine C_po rfl rfl ?_; simp only [Act.put, List.setIfInBounds_toArray, List.set_cons_zero, List.set_cons_succ]) | (refine C_so rfl rfl hS0 ?_; simp only [Act.put, List.setIfInBounds_toArray, List.set_cons_zero, List.set_cons_succ]) | (refine C_to rfl rfl ?_; simp only [Act.put, List.setIfInBounds_toArray, List.set_cons_zero, List.set_cons_succ])))
      (refine C_e rfl rfl (fun K hK => ?_); go_simp)
      refine (plain_spec _ _ _ _ _ h11).mono ?_
      rintro e w1 ⟨rfl, hk1, h12⟩
      have hS1 := hS0
      clear hS0
      have hS0 : w1.cell? ⟨b2, o2 + k * 3, none⟩ = some (.int .i64 pk.seq) ∧ w1.cell? ⟨b2, o2 + k * 3 + 1, none⟩ = some (.int .i64 pk.ack) ∧ w1.cell? ⟨b2, o2 + k * 3 + 2, none⟩ = some (.slice au pk.b.length cu) := ⟨hk1 _ _ hS1.1, hk1 _ _ hS1.2.1, hk1 _ _ hS1.2.2⟩
      clear hk1 hS1 h11
      (refine hK _ _ (fun _ => hS0) ?_; clear hK K; (try simp only [Act.put, List.setIfInBounds_toArray, List.set_cons_zero, List.set_cons_succ]))
      (repeat (first | (refine C_p (v := ?_) rfl rfl (fun w' => ?_) ?_; rotate_left; (go_simp; with_reducible rfl); simp only [Act.put, List.setIfInBounds_toArray, List.set_cons_zero, List.set_cons_succ]) | (refine C_s (v := ?_) rfl rfl hS0 (fun w' hS => ?_) ?_; rotate_left; ((try dsimp only at hS); go_simp; with_reducible rfl); simp only [Act.put, List.setIfInBounds_toArray, List.set_cons_zero, List.set_cons_succ]) | (refine C_t (v := ?_) rfl rfl ?_ ?_; rotate_left; (go_simp; with_reducible rfl); simp only [Act.put, List.setIfInBounds_toArray, List.set_cons_zero, List.set_cons_succ]) | (refine C_po rfl rfl ?_; simp only [Act.put, List.setIfInBounds_toArray, List.set_cons_zero, List.set_cons_succ]) | (refine C_so rfl rfl hS0 ?_; simp only [Act.put, List.setIfInBounds_toArray, List.set_cons_zero, List.set_cons_succ]) | (refine C_to rfl rfl ?_; simp only [Act.put, List.setIfInBounds_toArray, List.set_cons_zero, List.set_cons_succ])))
      (refine C_e rfl rfl (fun K hK => ?_); go_simp)
      refine (rsame_spec _ _ _ _ _ h12).mono ?_
      rintro e w2 ⟨rfl, h13⟩
      (refine hK _ _ (fun h => by cases h) ?_; clear hK K; (try simp only [Act.put, List.setIfInBounds_toArray, List.set_cons_zero, List.set_cons_succ]))
      (repeat (first | (refine C_p (v := ?_) rfl rfl (fun w' => ?_) ?_; rotate_left; (go_simp; with_reducible rfl); simp only [Act.put, List.setIfInBounds_toArray, List.set_cons_zero, List.set_cons_succ]) | (refine C_s (v := ?_) rfl rfl hS0 (fun w' hS => ?_) ?_; rotate_left; ((try dsimp only at hS); go_simp; with_reducible rfl); simp only [Act.put, List.setIfInBounds_toArray, List.set_cons_zero, List.set_cons_succ]) | (refine C_t (v := ?_) rfl rfl ?_ ?_; rotate_left; (go_simp; with_reducible rfl); simp only [Act.put, List.setIfInBounds_toArray, List.set_cons_zero, List.set_cons_succ]) | (refine C_po rfl rfl ?_; simp only [Act.put, List.setIfInBounds_toArray, List.set_cons_zero, List.set_cons_succ]) | (refine C_so rfl rfl hS0 ?_; simp only [Act.put, List.setIfInBounds_toArray, List.set_cons_zero, List.set_cons_succ]) | (refine C_to rfl rfl ?_; simp only [Act.put, List.setIfInBounds_toArray, List.set_cons_zero, List.set_cons_succ])))
      refine C_nil ?_
      clear e0 e1 e2 h12 hS0
      go_wp2_with fail
      go_roundw
      case rel => exact ⟨k + 1, by omega, by go_num, h13.drop.drop⟩
      case measure => simp [intOf]; omega
    · have g1 : decide ((k : Int) < (n : Int)) = false := by simp; omega
      go_wp2_with fail
      go_ret
      exact ⟨rfl, hS.drop⟩
end Go.Proofs.Ytnmkdidhilekiaa
