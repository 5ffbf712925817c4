/- The closure of authmap.Check, and Check. -/
import Derived.Test.YtcmjbjlliehdiaaDoorGAuthmapChecksSQkx
namespace Go.Proofs.YtcmjbjlliehdiaaDoor
open Go.RowKit PA
attribute [local go_sem] Oper.semAt_some
/-- What the closure sees: the map of hashes, itself. -/
def cenv (K : KMap) (m tM tF nn : Nat) : Assn := sep (blk tM (.cells #[.map (some m)] 135 (0, 0))) (sep (blk tF (.cells #[.func (.func 76) #[] #[.pointer (some ⟨tM, 0, none⟩), .pointer (some ⟨tF, 0, none⟩)]] 138 (0, 0))) (gmap bkv m (kV K) nn))
theorem sumV_ret {o : Option Nat} {e : Value} (h : e = sumV o) : Ending.returned e = .returned (sumV o) := by rw [h]
set_option maxRecDepth 100000 in
set_option maxHeartbeats 8000000 in
theorem acomp_leaf {W w : World} {A : Assn} {K : KMap} {m tM tF nn : Nat} (l : Nat) (n : Int) (hT : inT l n) (hk : (K (l, n)).isSome = true ∨ l = 0) (h : Sat W w (sep (cenv K m tM tF nn) A)) :
    Calls Tryd.prog 76 #[bkv (l, n), .pointer (some ⟨tM, 0, none⟩), .pointer (some ⟨tF, 0, none⟩)] w fun e w' => e = .returned (sumV (compP K l n)) ∧ Sat W w' (sep (cenv K m tM tF nn) A) := by
  have hres : compP K l n = (K (l, n)).getD none := by
    cases l with
    | zero => rfl
    | succ l =>
      rw [compP]
      rcases hk with hk | hk
      · cases hx : K (l + 1, n) with
        | none => rw [hx] at hk; cases hk
        | some o => rfl
      · cases hk
  obtain ⟨o, ho⟩ : ∃ z, z = (K (l, n)).getD none := ⟨_, rfl⟩
  obtain ⟨sm, hsm⟩ : ∃ z, z = (K (l, n)).isSome := ⟨_, rfl⟩
  rw [hres, ← ho]
  obtain ⟨ho1, hho1⟩ : ∃ z, z = o.getD 0 := ⟨_, rfl⟩
  obtain ⟨so, hso⟩ : ∃ z, z = o.isSome := ⟨_, rfl⟩
  have hsv : sumV o = .agg #[.int .u64 (ho1 : Int), .bool so] := by rw [hho1, hso]; rfl
  rw [hsv]
  have h0 : Sat W w (sep (blk tM (.cells #[.map (some m)] 135 (0, 0))) (sep (blk tF (.cells #[.func (.func 76) #[] #[.pointer (some ⟨tM, 0, none⟩), .pointer (some ⟨tF, 0, none⟩)]] 138 (0, 0))) (sep (gmap bkv m (kV K) nn) A))) := by
    unfold cenv at h
    simpa only [sep_assoc] using h
  obtain ⟨x, hx⟩ : ∃ x, x = w.heap.size := ⟨_, rfl⟩
  obtain ⟨w2, hw2⟩ : ∃ z, z = (w.alloc (.cells #[.int .i64 (l : Nat), .int .i64 n] 106)).alloc (.cells #[.int .u64 0, .bool false] 96) := ⟨_, rfl⟩
  have h1 := (h0.alloc (.cells #[.int .i64 (l : Nat), .int .i64 n] 106)).alloc (.cells #[.int .u64 0, .bool false] 96)
  simp only [World.size_alloc] at h1
  rw [← hx, ← hw2] at h1
  have hlk := run_lookup_gmap (P := Tryd.prog) (T := 135) Tryd.underlying135 blk_key zeroSum (show Sat W w2 (sep (gmap bkv m (kV K) nn) (sep (blk (x + 1) (.cells #[.int .u64 0, .bool false] 96 (0, 0))) (sep (blk x (.cells #[.int .i64 (l : Nat), .int .i64 n] 106 (0, 0))) (sep (blk tM (.cells #[.map (some m)] 135 (0, 0))) (sep (blk tF (.cells #[.func (.func 76) #[] #[.pointer (some ⟨tM, 0, none⟩), .pointer (some ⟨tF, 0, none⟩)]] 138 (0, 0))) A))))) by simpa only [sep_comm, sep_lcomm, sep_assoc] using h1) (l, n) true
  have hlk2 : (Instr.lookup 135 (.map (some m)) (.agg #[.int .i64 (l : Nat), .int .i64 n]) true).run Tryd.prog w2 = .ok (.tuple #[.agg #[.int .u64 (ho1 : Int), .bool so], .bool sm]) w2 := by
    have e1 : (kV K (l, n)).getD (.agg #[.int .u64 0, .bool false]) = .agg #[.int .u64 (ho1 : Int), .bool so] := by
      rw [← hsv, ho]
      unfold kV
      cases K (l, n) <;> rfl
    have e2 : (kV K (l, n)).isSome = sm := by rw [hsm]; unfold kV; cases K (l, n) <;> rfl
    rw [e1, e2] at hlk
    exact hlk
  have c0 : w2.cell? ⟨x, 0, none⟩ = some (.int .i64 (l : Nat)) := h1.p1.cell 0
  have c1 : w2.cell? ⟨x, 1, none⟩ = some (.int .i64 n) := h1.p1.cell 1
  have c2 : w2.cell? ⟨tM, 0, none⟩ = some (.map (some m)) := h1.p2.cell 0
  obtain ⟨w3, hw3⟩ : ∃ z, z = w2.alloc (.cells #[.int .u64 (ho1 : Int), .bool so] 96) := ⟨_, rfl⟩
  have hsz : w2.heap.size = x + 1 + 1 := by rw [hw2, World.size_alloc, World.size_alloc, ← hx]
  have h2 := h1.alloc (.cells #[.int .u64 (ho1 : Int), .bool so] 96)
  rw [← hw3, hsz] at h2
  have g0 : w3.cell? ⟨x, 0, none⟩ = some (.int .i64 (l : Nat)) := h2.p2.cell 0
  have g2 : w3.cell? ⟨x + 1 + 1, 0, none⟩ = some (.int .u64 (ho1 : Int)) := h2.cell 0
  have g3 : w3.cell? ⟨x + 1 + 1, 1, none⟩ = some (.bool so) := h2.cell 1
  have s0 : w3.cell? ⟨x + 1, 0, none⟩ = some (.int .u64 0) := h2.p1.cell 0
  have s1 : w3.cell? ⟨x + 1, 1, none⟩ = some (.bool false) := h2.p1.cell 1
  have f0 : w3.frozen? ⟨x + 1, 0, none⟩ = false := h2.p1.unfrozen 0
  have f1 : w3.frozen? ⟨x + 1, 1, none⟩ = false := h2.p1.unfrozen 1
  have h3 := (h2.p1.setCell 0 (.int .u64 (ho1 : Int))).setCell 1 (.bool so)
  have H3 : Hid (((w3.setCell ⟨x + 1, 0, none⟩ (.int .u64 (ho1 : Int))).setCell ⟨x + 1, 1, none⟩ (.bool so)).cell? ⟨x + 1, 0, none⟩ = some (.int .u64 (ho1 : Int)) ∧ ((w3.setCell ⟨x + 1, 0, none⟩ (.int .u64 (ho1 : Int))).setCell ⟨x + 1, 1, none⟩ (.bool so)).cell? ⟨x + 1, 1, none⟩ = some (.bool so) ∧
      Sat W ((w3.setCell ⟨x + 1, 0, none⟩ (.int .u64 (ho1 : Int))).setCell ⟨x + 1, 1, none⟩ (.bool so)) (sep (cenv K m tM tF nn) A)) := Lib.hid ⟨h3.cell 0, h3.cell 1, by
    have h4 := h3.drop.drop.drop
    unfold cenv
    simpa only [sep_assoc] using h4⟩
  have HW := Lib.hid (And.intro hx (And.intro hw2 hw3))
  have hkI : sm = true ∨ (sm = false ∧ ((l : Int) == 0) = true) := by
    rcases hk with hk | hk
    · exact .inl (by rw [hsm]; exact hk)
    · cases hb : sm with
      | true => exact .inl rfl
      | false => exact .inr ⟨rfl, by simp [hk]⟩
  clear h h0 h1 h2 h3 hlk hx hw2 hw3 hsz hres ho hsm hho1 hso hsv hk hT
  unfold bkv
  go_enter Tryd.func76, Tryd.ntmps76
  go_upto_region 1 with (fail)
  rw [← HW.out.1, ← HW.out.2.1]
  go_upto_region 2 with (fail)
  rw [show w2.heap.size = x + 1 + 1 by rw [HW.out.2.1, World.size_alloc, World.size_alloc, ← HW.out.1], ← HW.out.2.2]
  clear c0 c1 c2 hlk2
  rcases hkI with rfl | ⟨rfl, hl0⟩
  all_goals
    go_wp2_with fail
    refine bodyPost_ret (by simp [results, Tryd.results76, go_sem, H3.out.1, H3.out.2.1]; try rfl) rfl ?_
    exact ⟨rfl, H3.out.2.2⟩
set_option maxRecDepth 100000 in
set_option maxHeartbeats 8000000 in
theorem acomp_spec {W : World} {KM : KMap} {m tM tF nn : Nat} : ∀ (l : Nat) (n : Int) (w : World) (A : Assn), inT l n → Sat W w (sep (cenv KM m tM tF nn) A) →
    Calls Tryd.prog 76 #[bkv (l, n), .pointer (some ⟨tM, 0, none⟩), .pointer (some ⟨tF, 0, none⟩)] w fun e w' => e = .returned (sumV (compP KM l n)) ∧ Sat W w' (sep (cenv KM m tM tF nn) A) := by
  intro l
  induction l with
  | zero => intro n w A hT h; exact acomp_leaf 0 n hT (.inr rfl) h
  | succ l ih =>
    intro n w A hT h
    by_cases hk : (KM (l + 1, n)).isSome = true
    · exact acomp_leaf (l + 1) n hT (.inl hk) h
    · have hkn : KM (l + 1, n) = none := by
        cases hx : KM (l + 1, n) with
        | none => rfl
        | some o => rw [hx] at hk; exact absurd rfl hk
      have hres : compP KM (l + 1) n = joinN (compP KM l (2 * n)) (compP KM l (2 * n + 1)) := by rw [compP, hkn]
      obtain ⟨o1, ho1⟩ : ∃ z, z = compP KM l (2 * n) := ⟨_, rfl⟩
      obtain ⟨o2, ho2⟩ : ∃ z, z = compP KM l (2 * n + 1) := ⟨_, rfl⟩
      rw [hres, ← ho1, ← ho2]
      have h0 : Sat W w (sep (blk tM (.cells #[.map (some m)] 135 (0, 0))) (sep (blk tF (.cells #[.func (.func 76) #[] #[.pointer (some ⟨tM, 0, none⟩), .pointer (some ⟨tF, 0, none⟩)]] 138 (0, 0))) (sep (gmap bkv m (kV KM) nn) A))) := by
        unfold cenv at h
        simpa only [sep_assoc] using h
      obtain ⟨x, hx⟩ : ∃ x, x = w.heap.size := ⟨_, rfl⟩
      obtain ⟨w2, hw2⟩ : ∃ z, z = (w.alloc (.cells #[.int .i64 ((l : Nat) + 1 : Int), .int .i64 n] 106)).alloc (.cells #[.int .u64 0, .bool false] 96) := ⟨_, rfl⟩
      have h1 := (h0.alloc (.cells #[.int .i64 ((l : Nat) + 1 : Int), .int .i64 n] 106)).alloc (.cells #[.int .u64 0, .bool false] 96)
      simp only [World.size_alloc] at h1
      rw [← hx, ← hw2] at h1
      have hlk := run_lookup_gmap (P := Tryd.prog) (T := 135) Tryd.underlying135 blk_key zeroSum (show Sat W w2 (sep (gmap bkv m (kV KM) nn) (sep (blk (x + 1) (.cells #[.int .u64 0, .bool false] 96 (0, 0))) (sep (blk x (.cells #[.int .i64 ((l : Nat) + 1 : Int), .int .i64 n] 106 (0, 0))) (sep (blk tM (.cells #[.map (some m)] 135 (0, 0))) (sep (blk tF (.cells #[.func (.func 76) #[] #[.pointer (some ⟨tM, 0, none⟩), .pointer (some ⟨tF, 0, none⟩)]] 138 (0, 0))) A))))) by simpa only [sep_comm, sep_lcomm, sep_assoc] using h1) (l + 1, n) true
      have hlk2 : (Instr.lookup 135 (.map (some m)) (.agg #[.int .i64 ((l : Nat) + 1 : Int), .int .i64 n]) true).run Tryd.prog w2 = .ok (.tuple #[.agg #[.int .u64 0, .bool false], .bool false]) w2 := by
        have e1 : kV KM (l + 1, n) = none := by unfold kV; rw [hkn]; rfl
        rw [e1] at hlk
        exact hlk
      have c0 : w2.cell? ⟨x, 0, none⟩ = some (.int .i64 ((l : Nat) + 1 : Int)) := h1.p1.cell 0
      have c1 : w2.cell? ⟨x, 1, none⟩ = some (.int .i64 n) := h1.p1.cell 1
      have c2 : w2.cell? ⟨tM, 0, none⟩ = some (.map (some m)) := h1.p2.cell 0
      obtain ⟨w3, hw3⟩ : ∃ z, z = w2.alloc (.cells #[.int .u64 0, .bool false] 96) := ⟨_, rfl⟩
      have hsz : w2.heap.size = x + 1 + 1 := by rw [hw2, World.size_alloc, World.size_alloc, ← hx]
      have h2 : Sat W w3 (sep (blk (x + 1) (.cells #[.int .u64 0, .bool false] 96 (0, 0))) (sep (blk x (.cells #[.int .i64 ((l : Nat) + 1 : Int), .int .i64 n] 106 (0, 0))) (sep (cenv KM m tM tF nn) A))) := by
        have := h1.alloc0 (.cells #[.int .u64 0, .bool false] 96)
        rw [← hw3] at this
        unfold cenv
        simpa only [sep_assoc] using this
      have g0 : w3.cell? ⟨x, 0, none⟩ = some (.int .i64 ((l : Nat) + 1 : Int)) := h2.p1.cell 0
      have g1 : w3.cell? ⟨x, 1, none⟩ = some (.int .i64 n) := h2.p1.cell 1
      have HH := Lib.hid (ahalves_spec l n hT h2)
      have hl0 : (((l : Nat) + 1 : Int) == 0) = false := by simp; omega
      have HW := Lib.hid (And.intro hx (And.intro hw2 hw3))
      have HI := Lib.hid (And.intro ih (And.intro hT (And.intro ho1 ho2)))
      clear h h0 h1 h2 hlk hx hw2 hw3 hsz hres ho1 ho2 hk hkn hT ih
      unfold bkv
      go_enter Tryd.func76, Tryd.ntmps76
      go_upto_region 1 with (fail)
      rw [← HW.out.1, ← HW.out.2.1]
      go_upto_region 2 with (fail)
      rw [show w2.heap.size = x + 1 + 1 by rw [HW.out.2.1, World.size_alloc, World.size_alloc, ← HW.out.1], ← HW.out.2.2]
      clear c0 c1 c2 hlk2
      go_wp2_with fail
      refine HH.out.mono ?_
      rintro e w4 ⟨rfl, h4⟩
      clear HH g0 g1 hl0
      obtain ⟨y, hy⟩ : ∃ y, y = w4.heap.size := ⟨_, rfl⟩
      obtain ⟨w5, hw5⟩ : ∃ z, z = (w4.alloc (.cells #[.int .i64 (l : Nat), .int .i64 (2 * n)] 106)).alloc (.cells #[.int .i64 (l : Nat), .int .i64 (2 * n + 1)] 106) := ⟨_, rfl⟩
      have h5 := (h4.alloc (.cells #[.int .i64 (l : Nat), .int .i64 (2 * n)] 106)).alloc (.cells #[.int .i64 (l : Nat), .int .i64 (2 * n + 1)] 106)
      simp only [World.size_alloc] at h5
      rw [← hy, ← hw5] at h5
      have hd := h5.drew
      obtain ⟨wd, hwd⟩ : ∃ z, z = w5.drew := ⟨_, rfl⟩
      rw [← hwd] at hd
      have hF : ∀ w' X, Sat W w' (sep (cenv KM m tM tF nn) X) → w'.cell? ⟨tF, 0, none⟩ = some (.func (.func 76) #[] #[.pointer (some ⟨tM, 0, none⟩), .pointer (some ⟨tF, 0, none⟩)]) := fun w' X hX => by
        unfold cenv at hX
        simp only [sep_assoc] at hX
        exact hX.p1.cell 0
      have h6 : Sat W wd (sep (cenv KM m tM tF nn) (sep (blk (y + 1) (.cells #[.int .i64 (l : Nat), .int .i64 (2 * n + 1)] 106 (0, 0))) (sep (blk y (.cells #[.int .i64 (l : Nat), .int .i64 (2 * n)] 106 (0, 0))) (sep (blk (x + 1) (.cells #[.int .u64 0, .bool false] 96 (0, 0))) (sep (blk x (.cells #[.int .i64 ((l : Nat) + 1 : Int), .int .i64 n] 106 (0, 0))) A))))) := by
        simpa only [sep_comm, sep_lcomm, sep_assoc] using hd
      have d0 : wd.cell? ⟨y, 0, none⟩ = some (.int .i64 (l : Nat)) := hd.p1.cell 0
      have d1 : wd.cell? ⟨y, 1, none⟩ = some (.int .i64 (2 * n)) := hd.p1.cell 1
      have hS0 : wd.cell? ⟨tF, 0, none⟩ = some (.func (.func 76) #[] #[.pointer (some ⟨tM, 0, none⟩), .pointer (some ⟨tF, 0, none⟩)]) ∧ wd.cell? ⟨y + 1, 0, none⟩ = some (.int .i64 (l : Nat)) ∧ wd.cell? ⟨y + 1, 1, none⟩ = some (.int .i64 (2 * n + 1)) := ⟨hF wd _ h6, hd.cell 0, hd.cell 1⟩
      have hc1 := HI.out.1 (2 * n) wd _ (inT_half HI.out.2.1).1 h6
      rw [← HI.out.2.2.1] at hc1
      unfold bkv at hc1
      have HC1 := Lib.hid hc1
      have HF := Lib.hid hF
      have HWD := Lib.hid (And.intro hy (And.intro hw5 hwd))
      clear h4 h5 hd h6 hc1 hF hy hw5 hwd
      unfold bkv
      go_upto_region 5 with (fail)
      rw [← HWD.out.1, ← HWD.out.2.1]
      obtain ⟨v0, v1, v2⟩ := hS0
      have hS0 := And.intro v0 (And.intro v1 v2)
      refine wp_region_canon rfl (fun w' => w'.cell? ⟨tF, 0, none⟩ = some (.func (.func 76) #[] #[.pointer (some ⟨tM, 0, none⟩), .pointer (some ⟨tF, 0, none⟩)]) ∧ w'.cell? ⟨y + 1, 0, none⟩ = some (.int .i64 (l : Nat)) ∧ w'.cell? ⟨y + 1, 1, none⟩ = some (.int .i64 (2 * n + 1))) [(0, .t), (1, .t), (3, .s), (4, .s), (2, .e true), (5, .e false), (6, .e false), (7, .e false)] (by kernel_rfl) ?_
      rw [← HWD.out.2.2]
      (repeat ((first | (refine C_p (v := ?_) rfl rfl (fun w' => ?_) ?_; rotate_left; (go_simp; with_reducible rfl)) | (refine C_s (v := ?_) rfl rfl hS0 (fun w' hS => ?_) ?_; rotate_left; ((try dsimp only at hS); go_simp; with_reducible rfl)) | (refine C_t (v := ?_) rfl rfl ?_ ?_; rotate_left; (go_simp; with_reducible rfl)) | (refine C_po rfl rfl ?_) | (refine C_so rfl rfl hS0 ?_) | (refine C_to rfl rfl ?_)); simp only [Act.put, List.setIfInBounds_toArray, List.set_cons_zero, List.set_cons_succ]))
      (refine C_e rfl rfl (fun K hK => ?_); go_simp)
      refine HC1.out.mono ?_
      rintro e w6 ⟨rfl, h7⟩
      have hS1 : w6.cell? ⟨tF, 0, none⟩ = some (.func (.func 76) #[] #[.pointer (some ⟨tM, 0, none⟩), .pointer (some ⟨tF, 0, none⟩)]) ∧ w6.cell? ⟨y + 1, 0, none⟩ = some (.int .i64 (l : Nat)) ∧ w6.cell? ⟨y + 1, 1, none⟩ = some (.int .i64 (2 * n + 1)) := ⟨HF.out w6 _ h7, h7.p1.cell 0, h7.p1.cell 1⟩
      have hc2 := HI.out.1 (2 * n + 1) w6 _ (inT_half HI.out.2.1).2 h7
      rw [← HI.out.2.2.2] at hc2
      unfold bkv at hc2
      have HC2 := Lib.hid hc2
      clear HC1 h7 hc2 d0 d1 v0 v1 v2 hS0
      (refine hK _ _ (fun _ => hS1) ?_; clear hK K; (try simp only [Act.put, List.setIfInBounds_toArray, List.set_cons_zero, List.set_cons_succ]))
      clear hS1
      (refine C_e rfl rfl (fun K hK => ?_); go_simp)
      refine HC2.out.mono ?_
      rintro e w7 ⟨rfl, h8⟩
      have hj := ajoin_spec o1 o2 h8
      have HJ := Lib.hid hj
      clear HC2 h8 hj
      (refine hK _ _ (fun h => by cases h) ?_; clear hK K; (try simp only [Act.put, List.setIfInBounds_toArray, List.set_cons_zero, List.set_cons_succ]))
      (refine C_e rfl rfl (fun K hK => ?_); go_simp)
      refine HJ.out.mono ?_
      rintro e w8 ⟨rfl, h9⟩
      obtain ⟨jh, hjh⟩ : ∃ z, z = (joinN o1 o2).getD 0 := ⟨_, rfl⟩
      obtain ⟨js, hjs⟩ : ∃ z, z = (joinN o1 o2).isSome := ⟨_, rfl⟩
      have hsv : sumV (joinN o1 o2) = .agg #[.int .u64 (jh : Int), .bool js] := by rw [hjh, hjs]; rfl
      rw [hsv]
      have HSV := Lib.hid hsv
      clear hsv hjh hjs HJ
      have s0 : w8.cell? ⟨x + 1, 0, none⟩ = some (.int .u64 0) := h9.p3.cell 0
      have s1 : w8.cell? ⟨x + 1, 1, none⟩ = some (.bool false) := h9.p3.cell 1
      have f0 : w8.frozen? ⟨x + 1, 0, none⟩ = false := h9.p3.unfrozen 0
      have f1 : w8.frozen? ⟨x + 1, 1, none⟩ = false := h9.p3.unfrozen 1
      have h10 := (h9.p3.setCell 0 (.int .u64 (jh : Int))).setCell 1 (.bool js)
      obtain ⟨w9, hw9⟩ : ∃ z, z = (w8.setCell ⟨x + 1, 0, none⟩ (.int .u64 (jh : Int))).setCell ⟨x + 1, 1, none⟩ (.bool js) := ⟨_, rfl⟩
      rw [← hw9] at h10
      have H10 : Hid (w9.cell? ⟨x + 1, 0, none⟩ = some (.int .u64 (jh : Int)) ∧ w9.cell? ⟨x + 1, 1, none⟩ = some (.bool js) ∧ Sat W w9 (sep (cenv KM m tM tF nn) A)) := Lib.hid ⟨h10.cell 0, h10.cell 1, by
        have h11 := h10.drop
        have h12 := (show Sat W w9 (sep (blk (y + 1) (.cells #[.int .i64 (l : Nat), .int .i64 (2 * n + 1)] 106 (0, 0))) (sep (blk y (.cells #[.int .i64 (l : Nat), .int .i64 (2 * n)] 106 (0, 0))) (sep (blk x (.cells #[.int .i64 ((l : Nat) + 1 : Int), .int .i64 n] 106 (0, 0))) (sep (cenv KM m tM tF nn) A)))) by simpa only [sep_comm, sep_lcomm, sep_assoc] using h11).drop.drop.drop
        exact h12⟩
      have HW9 := Lib.hid hw9
      clear hw9
      clear h9 h10
      (refine hK _ _ (fun h => by cases h) ?_; clear hK K; (try simp only [Act.put, List.setIfInBounds_toArray, List.set_cons_zero, List.set_cons_succ]))
      (refine C_e rfl rfl (fun K hK => ?_); go_simp)
      rw [← HW9.out]
      clear s0 s1 f0 f1
      (refine hK _ _ (fun h => by cases h) ?_; clear hK K; (try simp only [Act.put, List.setIfInBounds_toArray, List.set_cons_zero, List.set_cons_succ]))
      refine C_nil ?_
      go_wp2_with fail
      refine bodyPost_ret (by simp [results, Tryd.results76, go_sem, H10.out.1, H10.out.2.1]; try rfl) rfl ?_
      exact ⟨by rw [HSV.out], H10.out.2.2⟩
end Go.Proofs.YtcmjbjlliehdiaaDoor
/- authmap.Check. -/
namespace Go.Proofs.YtcmjbjlliehdiaaDoor
open Go.RowKit PA
attribute [local go_sem] Oper.semAt_some
theorem wrongP_len {a b : Int} : ∀ {ps : List (Int × List UInt8)} {o : Option Int}, wrongP a b ps o = false → ∀ x ∈ ps, x.2.length ≤ 65536
  | [], _, _, x, hx => by cases hx
  | y :: ps, o, h, x, hx => by
    unfold wrongP at h
    simp only [Bool.or_eq_false_iff] at h
    rcases List.mem_cons.1 hx with rfl | hx
    · have := h.1.2
      simpa using this
    · exact wrongP_len h.2 x hx
set_option maxRecDepth 100000 in
set_option maxHeartbeats 16000000 in
theorem acheck_spec {W w : World} {A : Assn} {I : Mem} (hw : WholeOK W) (root : Nat) (a b : Int) (pa : Option Addr) (pn pc : Nat) (ps : List (Int × List UInt8)) (vp : Value) (p : Prf) (h : Sat W w (sep (kn I) A))
    (hv : (rPairQ.slice 2).rel I [.slice pa pn pc] ps) (hps : ps.length ≤ 1000000) (hvp : prfR I vp p) (hp : PrfOK p) :
    Calls Tryd.prog 39 #[.int .u64 (root : Nat), .int .i64 a, .int .i64 b, .slice pa pn pc, vp] w fun e w' => e = .returned (.int .i64 (checkP root a b ps p)) ∧ Sat W w' (sep (kn I) A) := by
  obtain ⟨a1, n1, c1, a2, n2, c2, a3, n3, c3, rfl, hn3⟩ := prfR_form hvp
  obtain ⟨cr, hcr⟩ : ∃ z, z = checkP root a b ps p := ⟨_, rfl⟩
  rw [← hcr]
  obtain ⟨t9, ht9⟩ : ∃ z, z = w.heap.size := ⟨_, rfl⟩
  obtain ⟨w2, hw2⟩ : ∃ z, z = w.alloc (.cells #[.slice a1 n1 c1, .slice a2 n2 c2, .slice a3 n3 c3] 40) := ⟨_, rfl⟩
  have h2 := h.alloc (.cells #[.slice a1 n1 c1, .slice a2 n2 c2, .slice a3 n3 c3] 40)
  rw [← ht9, ← hw2] at h2
  have hir := aisrange_spec a b w2
  have HP := Lib.hid (And.intro hv (And.intro hps (And.intro hvp (And.intro hp (And.intro hcr hw)))))
  have HW2 := Lib.hid (And.intro ht9 hw2)
  have HN3 := Lib.hid hn3
  by_cases c0 : 0 ≤ a ∧ a ≤ b ∧ b ≤ 4095
  · rw [decide_eq_true c0] at hir
    have hwr := awrong_spec a b pa pn pc ps h2.p1 hv hps
    have HIR := Lib.hid hir
    obtain ⟨wr, hwr'⟩ : ∃ z, z = wrongP a b ps none := ⟨_, rfl⟩
    rw [← hwr'] at hwr
    have HWR := Lib.hid hwr
    have HC0 := Lib.hid (And.intro c0 hwr')
    clear h h2 hv hps hvp hp hcr hw ht9 hw2 hir hwr hwr' c0 hn3
    cases wr with
    | true =>
      go_enter Tryd.func39, Tryd.ntmps39
      go_upto_region 1 with (fail)
      rw [← HW2.out.1, ← HW2.out.2]
      go_wp2_with fail
      refine HIR.out.mono ?_
      rintro e w' ⟨rfl, rfl⟩
      go_wp2_with fail
      refine HWR.out.mono ?_
      rintro e w3 ⟨rfl, h3⟩
      have hr : cr = 1 := by rw [HP.out.2.2.2.2.1]; unfold checkP; rw [if_neg (by simpa using HC0.out.1), if_pos HC0.out.2.symm]
      have H3 := Lib.hid (And.intro hr h3)
      clear hr h3 HIR HWR
      go_wp2_with fail
      go_ret
      exact ⟨by rw [H3.out.1]; rfl, by have := H3.out.2.p1.drop; exact this⟩
    | false =>
      have hpl := wrongP_len HC0.out.2.symm
      go_enter Tryd.func39, Tryd.ntmps39
      go_upto_region 1 with (fail)
      rw [← HW2.out.1, ← HW2.out.2]
      go_wp2_with fail
      refine HIR.out.mono ?_
      rintro e w' ⟨rfl, rfl⟩
      go_wp2_with fail
      refine HWR.out.mono ?_
      rintro e w3 ⟨rfl, h3⟩
      have d0 : w3.cell? ⟨t9, 0, none⟩ = some (.slice a1 n1 c1) := h3.p1.cell 0
      have d1 : w3.cell? ⟨t9, 1, none⟩ = some (.slice a2 n2 c2) := h3.p1.cell 1
      have d2 : w3.cell? ⟨t9, 2, none⟩ = some (.slice a3 n3 c3) := h3.p1.cell 2
      have hk := known_spec HP.out.2.2.2.2.2 a b HC0.out.1 pa pn pc ps _ p h3 HP.out.1 HP.out.2.1 hpl HP.out.2.2.1 HP.out.2.2.2.1
      have HK := Lib.hid hk
      clear h3 hk hpl HIR HWR
      go_wp2_with fail
      refine HK.out.mono ?_
      rintro e w4 (⟨hf, mo, rfl, h4⟩ | ⟨KM, m, nn, hf, rfl, h4⟩)
      · have hr : cr = 2 := by rw [HP.out.2.2.2.2.1]; unfold checkP; rw [if_neg (by simpa using HC0.out.1), if_neg (by rw [← HC0.out.2]; simp), hf]
        have h5 := h4.alloc0 (.cells #[.map mo] 135)
        have H5 := Lib.hid (And.intro hr h5)
        clear hr h4 h5 hf HK d0 d1 d2
        go_wp2_with fail
        go_ret
        exact ⟨by rw [H5.out.1]; rfl, by have := H5.out.2.p1.drop; exact this⟩
      · obtain ⟨tM, htM⟩ : ∃ z, z = w4.heap.size := ⟨_, rfl⟩
        obtain ⟨w5, hw5⟩ : ∃ z, z = (w4.alloc (.cells #[.map (some m)] 135)).alloc (.cells #[.func (.func 76) #[] #[.pointer (some ⟨tM, 0, none⟩), .pointer (some ⟨tM + 1, 0, none⟩)]] 138) := ⟨_, rfl⟩
        have h5 := (h4.alloc (.cells #[.map (some m)] 135)).alloc (.cells #[.func (.func 76) #[] #[.pointer (some ⟨tM, 0, none⟩), .pointer (some ⟨tM + 1, 0, none⟩)]] 138)
        rw [World.size_alloc, ← htM, ← hw5] at h5
        have h6 : Sat W w5 (sep (cenv KM m tM (tM + 1) nn) (sep (kn I) (sep (blk t9 (.cells #[.slice a1 n1 c1, .slice a2 n2 c2, .slice a3 n3 c3] 40 (0, 0))) A))) := by
          unfold cenv
          simpa only [sep_comm, sep_lcomm, sep_assoc] using h5
        obtain ⟨q0, q1⟩ := HP.out.2.2.2.2.2.now h6
        have e0 : w5.cell? ⟨tM + 1, 0, none⟩ = some (.func (.func 76) #[] #[.pointer (some ⟨tM, 0, none⟩), .pointer (some ⟨tM + 1, 0, none⟩)]) := h5.cell 0
        have hcm := acomp_spec 12 0 w5 _ inT_top h6
        obtain ⟨o, ho⟩ : ∃ z, z = compP KM 12 0 := ⟨_, rfl⟩
        rw [← ho] at hcm
        have HCM : Hid (Calls Tryd.prog 76 #[.agg #[.int .i64 12, .int .i64 0], .pointer (some ⟨tM, 0, none⟩), .pointer (some ⟨tM + 1, 0, none⟩)] w5 fun e w' => e = .returned (sumV o) ∧ Sat W w' (sep (cenv KM m tM (tM + 1) nn) (sep (kn I) (sep (blk t9 (.cells #[.slice a1 n1 c1, .slice a2 n2 c2, .slice a3 n3 c3] 40 (0, 0))) A)))) := Lib.hid hcm
        have hr : cr = if o.getD 0 = root then 0 else 10 := by rw [HP.out.2.2.2.2.1]; unfold checkP; rw [if_neg (by simpa using HC0.out.1), if_neg (by rw [← HC0.out.2]; simp), hf, ho]
        have HR := Lib.hid hr
        have HW5 := Lib.hid (And.intro htM hw5)
        have hmf : ∀ (fn : Fn) (first cap : Array Value) (w : World), (Instr.makeFunc fn first cap).run Tryd.prog w = .ok (.func fn first cap) w := fun _ _ _ _ => rfl
        clear h4 h5 h6 hcm hr htM hw5 ho hf HK d0 d1 d2
        go_upto_region 10 with (fail)
        rw [← HW5.out.1, ← HW5.out.2]
        clear hmf
        obtain ⟨oh, hoh⟩ : ∃ z, z = o.getD 0 := ⟨_, rfl⟩
        obtain ⟨os, hos⟩ : ∃ z, z = o.isSome := ⟨_, rfl⟩
        have hsv : sumV o = .agg #[.int .u64 (oh : Int), .bool os] := by rw [hoh, hos]; rfl
        have hf0 : ∀ w', (Instr.field 96 (.agg #[.int .u64 (oh : Int), .bool os]) 0).run Tryd.prog w' = .ok (.int .u64 (oh : Int)) w' := fun w' => by kernel_rfl
        have HO := Lib.hid (And.intro hoh hsv)
        clear hoh hos hsv
        go_wp2_with fail
        refine HCM.out.mono ?_
        rintro e w6 ⟨rfl, h7⟩
        rw [HO.out.2]
        have H7 := Lib.hid h7.drop
        clear HCM h7 e0 q0 q1
        by_cases hq : oh = root
        · have hqB : ((oh : Int) == (root : Int)) = true := by simp [hq]
          have hr : cr = 0 := by rw [HR.out, if_pos (by rw [← HO.out.1]; exact hq)]
          have HRR := Lib.hid hr
          clear hr hq
          go_wp2_with fail
          go_ret
          exact ⟨by rw [HRR.out]; rfl, by have := H7.out.p1.drop; exact this⟩
        · have hqB : ((oh : Int) == (root : Int)) = false := by simp; omega
          have hr : cr = 10 := by rw [HR.out, if_neg (by rw [← HO.out.1]; exact hq)]
          have HRR := Lib.hid hr
          clear hr hq
          go_wp2_with fail
          go_ret
          exact ⟨by rw [HRR.out]; rfl, by have := H7.out.p1.drop; exact this⟩
  · rw [decide_eq_false c0] at hir
    have HIR := Lib.hid hir
    have hr : cr = 5 := by rw [hcr]; unfold checkP; rw [if_pos c0]
    have H2 := Lib.hid (And.intro hr h2)
    clear h h2 hv hps hvp hp hcr hw ht9 hw2 hir c0 hn3 hr
    go_enter Tryd.func39, Tryd.ntmps39
    go_upto_region 1 with (fail)
    rw [← HW2.out.1, ← HW2.out.2]
    go_wp2_with fail
    refine HIR.out.mono ?_
    rintro e w' ⟨rfl, rfl⟩
    clear HIR
    go_wp2_with fail
    go_ret
    exact ⟨by rw [H2.out.1]; rfl, H2.out.2.drop⟩
end Go.Proofs.YtcmjbjlliehdiaaDoor
