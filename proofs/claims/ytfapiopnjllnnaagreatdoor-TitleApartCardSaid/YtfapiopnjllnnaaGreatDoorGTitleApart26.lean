/- Title: SameInts, plain, SameOwners. -/
import Derived.Test.YtfapiopnjllnnaaGreatDoorGTitleApart25
import Derived.Laws.StructEq
namespace Go.Proofs.YtfapiopnjllnnaaGreatDoor
open Go.RowKit PA
attribute [local go_sem] Oper.semAt_some
theorem sameIntsT_spec (w : World) (a b : Option Addr) (c d : Nat) (x y : List Int) (hl1 : (x.length : Int) ≤ 9223372036854775807) (hl2 : (y.length : Int) ≤ 9223372036854775807)
    (hx : x ≠ [] → ∃ g o, a = some ⟨g, o, none⟩ ∧ ∀ j u, (x.map iv)[j]? = some u → w.cell? ⟨g, o + j, none⟩ = some u)
    (hy : y ≠ [] → ∃ g o, b = some ⟨g, o, none⟩ ∧ ∀ j u, (y.map iv)[j]? = some u → w.cell? ⟨g, o + j, none⟩ = some u) :
    Calls Tryz.prog 15 #[.slice a x.length c, .slice b y.length d] w fun e w' => e = .returned (.bool (decide (x = y))) ∧ ∃ n, w' = w.drewN n := by
  obtain ⟨nx, hnx⟩ : ∃ nx, nx = x.length := ⟨_, rfl⟩
  obtain ⟨ny, hny⟩ : ∃ ny, ny = y.length := ⟨_, rfl⟩
  have HX := Lib.hid hx
  have HY := Lib.hid hy
  rw [← hnx] at hl1 ⊢
  rw [← hny] at hl2 ⊢
  have HNX := Lib.hid hnx
  have HNY := Lib.hid hny
  clear hx hy
  by_cases hne : nx = ny
  · subst hne
    clear hnx hny
    go_enter Tryz.func15, Tryz.ntmps15
    go_wp2
    go_loopw [5] (fun i wr => ∃ k : Nat, k ≤ nx ∧ i = .int .i64 k ∧ x.take k = y.take k ∧ ∃ n, wr = w.drewN n) (fun i _ => nx - (intOf i).toNat)
    case atStart => exact ⟨0, Nat.zero_le _, rfl, rfl, 0, rfl⟩
    case round =>
      obtain ⟨k, hk, rfl, htk, nd, rfl⟩ := hrel
      have HT := Lib.hid htk
      clear htk
      by_cases hlt : k < nx
      · have k1 : k < x.length := by have := HNX.out; omega
        have k2 : k < y.length := by have := HNY.out; omega
        obtain ⟨b1, o1, rfl, hc1⟩ := HX.out (by intro e; rw [e] at k1; simp at k1)
        obtain ⟨b2, o2, rfl, hc2⟩ := HY.out (by intro e; rw [e] at k2; simp at k2)
        have g1 := hc1 k (iv x[k]) (by simp [k1])
        have g2 := hc2 k (iv y[k]) (by simp [k2])
        clear hc1 hc2
        obtain ⟨xk, hxk⟩ : ∃ z, z = x[k] := ⟨_, rfl⟩
        obtain ⟨yk, hyk⟩ : ∃ z, z = y[k] := ⟨_, rfl⟩
        rw [← hxk] at g1
        rw [← hyk] at g2
        have HXK := Lib.hid hxk
        have HYK := Lib.hid hyk
        unfold iv at g1 g2
        clear hxk hyk
        by_cases hxy : xk = yk
        · subst hxy
          have b1 : ((xk : Int) != (xk : Int)) = false := by simp
          go_wp2_with fail
          refine wp_region_canon rfl (fun _ => True) [(0, .p), (1, .p), (2, .p), (3, .t), (4, .p), (5, .p), (6, .p), (7, .t), (8, .p)] (by kernel_rfl) ?_
          have hS0 : True := trivial
          (repeat ((first | (refine C_p (v := ?_) rfl rfl (fun w' => ?_) ?_; rotate_left; (go_simp; with_reducible rfl)) | (refine C_s (v := ?_) rfl rfl hS0 (fun w' hS => ?_) ?_; rotate_left; ((try dsimp only at hS); go_simp; with_reducible rfl)) | (refine C_t (v := ?_) rfl rfl ?_ ?_; rotate_left; (go_simp; with_reducible rfl)) | (refine C_po rfl rfl ?_) | (refine C_so rfl rfl hS0 ?_) | (refine C_to rfl rfl ?_)); simp only [Act.put, List.setIfInBounds_toArray, List.set_cons_zero, List.set_cons_succ]))
          refine C_nil ?_
          go_wp2
          go_roundw
          case rel => exact ⟨k + 1, by omega, by go_num, by rw [List.take_succ_eq_append_getElem k1, List.take_succ_eq_append_getElem k2, HT.out, ← HXK.out, ← HYK.out], nd + 1, rfl⟩
          case measure => simp [intOf]; omega
        · have b1 : ((xk : Int) != (yk : Int)) = true := by simp; omega
          have HXY := Lib.hid hxy
          clear hxy
          go_wp2_with fail
          refine wp_region_canon rfl (fun _ => True) [(0, .p), (1, .p), (2, .p), (3, .t), (4, .p), (5, .p), (6, .p), (7, .t), (8, .p)] (by kernel_rfl) ?_
          have hS0 : True := trivial
          (repeat ((first | (refine C_p (v := ?_) rfl rfl (fun w' => ?_) ?_; rotate_left; (go_simp; with_reducible rfl)) | (refine C_s (v := ?_) rfl rfl hS0 (fun w' hS => ?_) ?_; rotate_left; ((try dsimp only at hS); go_simp; with_reducible rfl)) | (refine C_t (v := ?_) rfl rfl ?_ ?_; rotate_left; (go_simp; with_reducible rfl)) | (refine C_po rfl rfl ?_) | (refine C_so rfl rfl hS0 ?_) | (refine C_to rfl rfl ?_)); simp only [Act.put, List.setIfInBounds_toArray, List.set_cons_zero, List.set_cons_succ]))
          refine C_nil ?_
          go_wp2
          go_ret
          refine ⟨ret_b (Eq.symm (decide_eq_false (fun e => HXY.out (by have h1 := HXK.out; have h2 := HYK.out; subst e; exact h1.trans h2.symm)))), nd + 1, rfl⟩
      · go_wp2
        go_ret
        have hkn : k = nx := by omega
        refine ⟨ret_b (Eq.symm (decide_eq_true ?_)), nd, rfl⟩
        have := HT.out
        rw [hkn] at this
        rw [List.take_of_length_le (by have := HNX.out; omega), List.take_of_length_le (by have := HNY.out; omega)] at this
        exact this
  · have b1 : ((nx : Int) != (ny : Int)) = true := by simp; omega
    go_enter Tryz.func15, Tryz.ntmps15
    go_wp2
    go_ret
    refine ⟨ret_b (Eq.symm (decide_eq_false (fun e => hne ?_))), 0, rfl⟩
    rw [HNX.out, HNY.out, e]

section
variable {W w : World} {A : Assn}
theorem src_oslT {E : Nat} {a : Option Addr} {n c : Nat} {xs : List Value} {α : Type} {x : List α} (g : α → Value) (hx : xs = x.map g) (h : Sat W w (sep (osl E 1 a n c xs) A)) : x ≠ [] → ∃ b o, a = some ⟨b, o, none⟩ ∧ ∀ j u, (x.map g)[j]? = some u → w.cell? ⟨b, o + j, none⟩ = some u := by
  intro hne
  obtain ⟨g', e, hc⟩ := h.osl_at (fun e => hne (by rw [hx] at e; exact List.map_eq_nil_iff.1 e))
  subst hx
  exact ⟨g', 0, e, fun j u hu => by rw [Nat.zero_add]; exact hc j u hu⟩
theorem osl_lenT {E k : Nat} {a : Option Addr} {n c : Nat} {xs : List Value} (h : Sat W w (sep (osl E k a n c xs) A)) : (n : Int) ≤ 9223372036854775807 := by
  have := h.swf_of_osl
  have h1 := this.1; have h2 := this.2.1; unfold maxLen at h2; omega
theorem sameIntsT_sat (a b : Option Addr) (c d : Nat) (x y : List Int) (h : Sat W w (sep (osl 3 1 a x.length c (x.map iv)) (sep (osl 3 1 b y.length d (y.map iv)) A))) :
    Calls Tryz.prog 15 #[.slice a x.length c, .slice b y.length d] w fun e w' => e = .returned (.bool (decide (x = y))) ∧ Sat W w' A := by
  refine (sameIntsT_spec w a b c d x y (osl_lenT h) (osl_lenT h.p1) (src_oslT iv rfl h) (src_oslT iv rfl h.p1)).mono ?_
  rintro e w' ⟨rfl, n, rfl⟩
  exact ⟨rfl, h.forget_osl.forget_osl.alike rfl rfl rfl rfl⟩
theorem lit_oslT {E k : Nat} (h : Sat W w A) (xs : List Value) (n : Nat) (hn : n * k = xs.length) (hl : n ≤ maxLen) : Sat W (w.alloc (.cells xs.toArray E)) (sep (osl E k (some ⟨w.heap.size, 0, none⟩) n n xs) A) := by
  exact (h.alloc (.cells xs.toArray E)).osl_mk n n k xs (by simp [hn]) (Nat.le_refl _) hl (by simp [hn]) (by simp [hn])
end
theorem ownC_at (own : List (Int × Rt)) (i : Nat) (hi : i < own.length) : (ownC own)[i * 3]? = some (.int .i64 own[i].1) ∧ (ownC own)[i * 3 + 1]? = some (.int .i64 own[i].2.n) ∧ (ownC own)[i * 3 + 2]? = some (.int .i64 own[i].2.d) := by
  have e : own = own.take i ++ own[i] :: own.drop (i + 1) := by rw [← List.drop_eq_getElem_cons hi, List.take_append_drop]
  have hl : (ownC (own.take i)).length = i * 3 := by rw [ownC_len, List.length_take, Nat.min_eq_left (by omega)]
  have key : ∀ j, j < 3 → (ownC own)[i * 3 + j]? = ([Value.int .i64 own[i].1, .int .i64 own[i].2.n, .int .i64 own[i].2.d])[j]? := fun j hj => by
    conv => lhs; rw [e]
    unfold ownC at hl ⊢
    rw [List.flatMap_append, List.getElem?_append_right (by omega), hl, Nat.add_sub_cancel_left, List.flatMap_cons, List.getElem?_append_left (by simpa using hj)]
  exact ⟨key 0 (by omega), key 1 (by omega), key 2 (by omega)⟩
theorem own_cells {W w : World} {A : Assn} {E : Nat} {a : Option Addr} {n c : Nat} {own : List (Int × Rt)} (hn : own.length = n) (h : Sat W w (sep (osl E 3 a n c (ownC own)) A)) (i : Nat) (hi : i < n) :
    ∃ g x r, a = some ⟨g, 0, none⟩ ∧ own[i]? = some (x, r) ∧ w.cell? ⟨g, i * 3, none⟩ = some (.int .i64 x) ∧ w.cell? ⟨g, i * 3 + 1, none⟩ = some (.int .i64 r.n) ∧ w.cell? ⟨g, i * 3 + 2, none⟩ = some (.int .i64 r.d) := by
  have hil : i < own.length := by omega
  obtain ⟨g, rfl, hc⟩ := h.osl_at (fun e => by have := congrArg List.length e; rw [ownC_len, List.length_nil] at this; omega)
  obtain ⟨k0, k1, k2⟩ := ownC_at own i hil
  exact ⟨g, own[i].1, own[i].2, rfl, by rw [List.getElem?_eq_getElem hil], hc _ _ k0, hc _ _ k1, hc _ _ k2⟩
theorem infoR25Owner : (Tryz.prog.info? 91).map (fun i => (i.zero, i.size, i.bytes)) = some (some (.agg #[.int .i64 0, .int .i64 0, .int .i64 0]), 3, 24) := by kernel_rfl
theorem ownC_take {own : List (Int × Rt)} {k : Nat} {x : Int} {r : Rt} (h : own[k]? = some (x, r)) : ownC (own.take (k + 1)) = ownC (own.take k) ++ [.int .i64 x, .int .i64 r.n, .int .i64 r.d] := by
  obtain ⟨hk, e⟩ := List.getElem?_eq_some_iff.1 h
  rw [List.take_succ_eq_append_getElem hk, e]
  unfold ownC
  rw [List.flatMap_append]; rfl
set_option maxHeartbeats 1000000 in
theorem plain_spec {W w : World} {A : Assn} (a : Option Addr) (n c : Nat) (own : List (Int × Rt)) (hn : own.length = n) (h10 : n ≤ 20000) (h : Sat W w (sep (osl 46 3 a n c (ownC own)) A)) :
    Calls Tryz.prog 19 #[.slice a n c] w fun e w' => ∃ a' c', e = .returned (.slice a' n c') ∧ Sat W w' (sep (osl 91 3 a' n c' (ownC own)) (sep (osl 46 3 a n c (ownC own)) A)) := by
  have HN := Lib.hid hn
  have H := Lib.hid h
  have hnI : (n : Int) ≤ 20000 := by omega
  clear hn h
  go_enter Tryz.func19, Tryz.ntmps19
  go_wp2
  go_loopw [4, 3] (fun kv ov wr => ∃ (k : Nat) (a1 : Option Addr) (c1 : Nat) (vs : List Value), kv = .int .i64 k ∧ k ≤ n ∧ ov = .slice a1 k c1 ∧ Hid (vs = ownC (own.take k)) ∧ Sat W wr (sep (osl 91 3 a1 k c1 vs) (sep (osl 46 3 a n c (ownC own)) A))) (fun kv _ _ => n - (intOf kv).toNat)
  case atStart => exact ⟨0, none, 0, [], rfl, by omega, rfl, Lib.hid rfl, H.out.osl_nil _ _⟩
  case round =>
    obtain ⟨k, a1, c1, vs, rfl, hk, rfl, HV, hS⟩ := hrel
    by_cases hlt : k < n
    · have hltz : (k : Int) < (n : Int) := by omega
      have hkI : (k : Int) ≤ 20000 := by omega
      have hd := hS.drew
      obtain ⟨wd, hwd⟩ : ∃ wd, wd = wr.drew := ⟨_, rfl⟩
      rw [← hwd] at hd
      obtain ⟨g, x, r, rfl, hx, k0, k1, k2⟩ := own_cells HN.out hd.p1 k hlt
      obtain ⟨rn, rd⟩ := r
      have hB : Sat W (wd.alloc (.cells #[.int .i64 x, .int .i64 rn, .int .i64 rd] 91)) (sep (osl 91 3 a1 k c1 vs) (sep (osl 46 3 (some ⟨g, 0, none⟩) n c (ownC own)) A)) := hd.alloc0 _
      have HSRC := Lib.hid (new_src wd [.int .i64 x, .int .i64 rn, .int .i64 rd] 91)
      have HX := Lib.hid hx
      have HWD := Lib.hid hwd
      have HB := Lib.hid hB
      clear hd hwd hB hx hS H
      go_wp2_with fail
      refine wp_region_canon rfl (fun _ => True) [(0, .p), (1, .p), (2, .p), (3, .p), (4, .p), (5, .t), (6, .p), (7, .p), (8, .p), (9, .p), (10, .t), (11, .p), (12, .e false), (13, .e false), (14, .p)] (by kernel_rfl) ?_
      have hS0 : True := trivial
      rw [← HWD.out]
      (repeat ((first | (refine C_p (v := ?_) rfl rfl (fun w' => ?_) ?_; rotate_left; (go_simp; with_reducible rfl)) | (refine C_s (v := ?_) rfl rfl hS0 (fun w' hS => ?_) ?_; rotate_left; ((try dsimp only at hS); go_simp; with_reducible rfl)) | (refine C_t (v := ?_) rfl rfl ?_ ?_; rotate_left; (go_simp; with_reducible rfl)) | (refine C_po rfl rfl ?_) | (refine C_so rfl rfl hS0 ?_) | (refine C_to rfl rfl ?_)); simp only [Act.put, List.setIfInBounds_toArray, List.set_cons_zero, List.set_cons_succ]))
      clear k0 k1 k2
      (refine C_e rfl rfl (fun K hK => ?_); go_simp)
      (refine hK _ _ (fun h => by cases h) ?_; clear hK K; (try simp only [Act.put, List.setIfInBounds_toArray, List.set_cons_zero, List.set_cons_succ]))
      refine C_e rfl rfl (fun K hK => ?_)
      refine wp_append_osl (.tmp 11) (.tmp 23) 34 rfl 91 3 24 _ Tryz.underlying34 infoR25Owner rfl rfl HB.out rfl [.int .i64 x, .int .i64 rn, .int .i64 rd] rfl (by simp) (by intro b' hb; cases hb; exact HSRC.out) (by simp [Value.oneCell']) (by omega) (by unfold maxLen; omega) ?_
      intro a2 c2 w4 h5
      have H5 := Lib.hid h5
      clear h5 HB HSRC
      (refine hK _ _ (fun h => by cases h) ?_; clear hK K; (try simp only [Act.put, List.setIfInBounds_toArray, List.set_cons_zero, List.set_cons_succ]))
      (repeat ((first | (refine C_p (v := ?_) rfl rfl (fun w' => ?_) ?_; rotate_left; (go_simp; with_reducible rfl)) | (refine C_s (v := ?_) rfl rfl hS0 (fun w' hS => ?_) ?_; rotate_left; ((try dsimp only at hS); go_simp; with_reducible rfl)) | (refine C_t (v := ?_) rfl rfl ?_ ?_; rotate_left; (go_simp; with_reducible rfl)) | (refine C_po rfl rfl ?_) | (refine C_so rfl rfl hS0 ?_) | (refine C_to rfl rfl ?_)); simp only [Act.put, List.setIfInBounds_toArray, List.set_cons_zero, List.set_cons_succ]))
      refine C_nil ?_
      go_wp2
      go_roundw
      case rel => exact ⟨k + 1, a2, c2, _, by go_num, by omega, rfl, Lib.hid (by rw [ownC_take HX.out, ← HV.out]), H5.out⟩
      case measure => simp [intOf]; omega
    · obtain rfl : k = n := by omega
      have HS := Lib.hid hS
      clear hS
      go_wp2
      go_ret
      refine ⟨a1, c1, rfl, ?_⟩
      have e : vs = ownC own := by rw [HV.out, List.take_of_length_le (by rw [HN.out]; exact Nat.le_refl _)]
      have h9 := HS.out
      rw [e] at h9
      exact h9
theorem r25_neq (w : World) (a b c a' b' c' : Int) : (binOp .neq 91 (.agg #[.int .i64 a, .int .i64 b, .int .i64 c]) (.agg #[.int .i64 a', .int .i64 b', .int .i64 c'])).run Tryz.prog w = .ok (.bool (!(a == a' && (b == b' && c == c')))) w := by
  have h1 : Tryz.prog.underlying 91 = some (.struct (Tryz.prog.fieldsOf 91)) := by kernel_rfl
  have h2 : Tryz.prog.stoodInHeld 91 = false := by kernel_rfl
  have h3 : Tryz.prog.underlying 44 = some (.struct (Tryz.prog.fieldsOf 44)) := by kernel_rfl
  have h4 : Tryz.prog.stoodInHeld 44 = false := by kernel_rfl
  have e := run_equalIn_struct (P := Tryz.prog) w 9999 91 #[.int .i64 a, .int .i64 b, .int .i64 c] #[.int .i64 a', .int .i64 b', .int .i64 c'] h1 h2
  rw [run_neq_struct, e]
  clear e
  have q0 : ∀ a b c : Int, (part 3 #[.int .i64 a, .int .i64 b, .int .i64 c] 0).run Tryz.prog w = .ok (.int .i64 a) w := fun a b c => by kernel_rfl
  have q1 : ∀ a b c : Int, (part 44 #[.int .i64 a, .int .i64 b, .int .i64 c] 1).run Tryz.prog w = .ok (.agg #[.int .i64 b, .int .i64 c]) w := fun a b c => by kernel_rfl
  have p0 : ∀ a b : Int, (part 3 #[.int .i64 a, .int .i64 b] 0).run Tryz.prog w = .ok (.int .i64 a) w := fun a b => by kernel_rfl
  have p1 : ∀ a b : Int, (part 3 #[.int .i64 a, .int .i64 b] 1).run Tryz.prog w = .ok (.int .i64 b) w := fun a b => by kernel_rfl
  have r0 : ∀ a b : Int, (Op.equalIn 9999 3 (.int .i64 a) (.int .i64 b)).run Tryz.prog w = .ok (a == b) w := fun a b => run_equalIn_int (P := Tryz.prog) w 9998 3 .i64 .i64 a b Tryz.underlying3
  have r1 : ∀ a b : Int, (Op.equalIn 9998 3 (.int .i64 a) (.int .i64 b)).run Tryz.prog w = .ok (a == b) w := fun a b => run_equalIn_int (P := Tryz.prog) w 9997 3 .i64 .i64 a b Tryz.underlying3
  have e2 : ∀ b c b' c' : Int, (Op.equalIn 9999 44 (.agg #[.int .i64 b, .int .i64 c]) (.agg #[.int .i64 b', .int .i64 c'])).run Tryz.prog w = .ok (b == b' && c == c') w := fun b c b' c' => by
    have e3 := run_equalIn_struct (P := Tryz.prog) w 9998 44 #[.int .i64 b, .int .i64 c] #[.int .i64 b', .int .i64 c'] h3 h4
    rw [show (9998 + 1 : Nat) = 9999 from rfl] at e3
    rw [e3]
    by_cases z2 : b = b'
    · by_cases z3 : c = c' <;> simp [Program.fieldsOf, Tryz.underlying44, Op.eqFields, p0, p1, r1, z2, z3]
    · simp [Program.fieldsOf, Tryz.underlying44, Op.eqFields, p0, r1, z2]
  by_cases z1 : a = a'
  · by_cases z2 : b = b' <;> by_cases z3 : c = c' <;> simp [Program.fieldsOf, Tryz.underlying91, Op.eqFields, q0, q1, r0, e2, z1, z2, z3]
  · simp [Program.fieldsOf, Tryz.underlying91, Op.eqFields, q0, r0, z1]
set_option maxHeartbeats 1000000 in
theorem sameOwners_spec {W w : World} {A : Assn} (a b : Option Addr) (n m c d : Nat) (x y : List (Int × Rt)) (hn : x.length = n) (hm : y.length = m) (h10 : n ≤ 20000) (h11 : m ≤ 20000) (h : Sat W w (sep (osl 91 3 a n c (ownC x)) (sep (osl 91 3 b m d (ownC y)) A))) :
    Calls Tryz.prog 18 #[.slice a n c, .slice b m d] w fun e w' => e = .returned (.bool (decide (x = y))) ∧ Sat W w' (sep (osl 91 3 a n c (ownC x)) (sep (osl 91 3 b m d (ownC y)) A)) := by
  obtain ⟨rv, hrv⟩ : ∃ rv, rv = decide (x = y) := ⟨_, rfl⟩
  rw [← hrv]
  have HRV := Lib.hid hrv
  have HN := Lib.hid (And.intro hn hm)
  have H := Lib.hid h
  have hnI : (n : Int) ≤ 20000 := by omega
  have hmI : (m : Int) ≤ 20000 := by omega
  clear hrv hn hm h
  by_cases hne : n = m
  · subst hne
    go_enter Tryz.func18, Tryz.ntmps18
    go_wp2
    go_loopw [5] (fun kv wr => ∃ k : Nat, kv = .int .i64 k ∧ k ≤ n ∧ Hid (x.take k = y.take k) ∧ Sat W wr (sep (osl 91 3 a n c (ownC x)) (sep (osl 91 3 b n d (ownC y)) A))) (fun kv _ => n - (intOf kv).toNat)
    case atStart => exact ⟨0, rfl, by omega, Lib.hid rfl, H.out⟩
    case round =>
      obtain ⟨k, rfl, hk, HK, hS⟩ := hrel
      by_cases hlt : k < n
      · have hltz : (k : Int) < (n : Int) := by omega
        have hkI : (k : Int) ≤ 20000 := by omega
        have hd := hS.drew
        obtain ⟨wd, hwd⟩ : ∃ wd, wd = wr.drew := ⟨_, rfl⟩
        rw [← hwd] at hd
        obtain ⟨g, x1, r1, rfl, hx1, k0, k1, k2⟩ := own_cells HN.out.1 hd k hlt
        obtain ⟨g', x2, r2, rfl, hx2, j0, j1, j2⟩ := own_cells HN.out.2 hd.p1 k hlt
        obtain ⟨n1, d1⟩ := r1
        obtain ⟨n2, d2⟩ := r2
        have hq := r25_neq wd x1 n1 d1 x2 n2 d2
        obtain ⟨bq, hbq⟩ : ∃ bq, bq = !(x1 == x2 && (n1 == n2 && d1 == d2)) := ⟨_, rfl⟩
        rw [← hbq] at hq
        have hiff : bq = false ↔ (x1, (⟨n1, d1⟩ : Rt)) = (x2, ⟨n2, d2⟩) := by
          rw [hbq]
          simp
        have HQ := Lib.hid hiff
        have HX := Lib.hid (And.intro hx1 hx2)
        have HWD := Lib.hid hwd
        have HD := Lib.hid hd
        have hq2 := fun w0 => r25_neq w0 x1 n1 d1 x2 n2 d2
        rw [← hbq] at hq2
        clear hd hwd hx1 hx2 hS H hiff hbq hq
        go_wp2_with fail
        refine wp_region_canon rfl (fun _ => True) [(0, .p), (1, .p), (2, .p), (3, .t), (4, .p), (5, .p), (6, .p), (7, .t), (8, .p)] (by kernel_rfl) ?_
        have hS0 : True := trivial
        rw [← HWD.out]
        (repeat ((first | (refine C_p (v := ?_) rfl rfl (fun w' => ?_) ?_; rotate_left; (go_simp; with_reducible rfl)) | (refine C_s (v := ?_) rfl rfl hS0 (fun w' hS => ?_) ?_; rotate_left; ((try dsimp only at hS); go_simp; with_reducible rfl)) | (refine C_t (v := ?_) rfl rfl ?_ ?_; rotate_left; (go_simp; with_reducible rfl)) | (refine C_po rfl rfl ?_) | (refine C_so rfl rfl hS0 ?_) | (refine C_to rfl rfl ?_)); simp only [Act.put, List.setIfInBounds_toArray, List.set_cons_zero, List.set_cons_succ]))
        refine C_nil ?_
        clear k0 k1 k2 j0 j1 j2 hq2
        cases bq with
        | false =>
          go_wp2
          go_roundw
          case rel =>
            refine ⟨k + 1, by go_num, by omega, Lib.hid ?_, HD.out⟩
            obtain ⟨l1, e1⟩ := List.getElem?_eq_some_iff.1 HX.out.1
            obtain ⟨l2, e2⟩ := List.getElem?_eq_some_iff.1 HX.out.2
            rw [List.take_succ_eq_append_getElem l1, List.take_succ_eq_append_getElem l2, HK.out, e1, e2, HQ.out.1 rfl]
          case measure => simp [intOf]; omega
        | true =>
          go_wp2
          go_ret
          refine ⟨?_, HD.out⟩
          have hne : x ≠ y := fun e => by
            have h1 := HX.out.1
            rw [e, HX.out.2] at h1
            have := HQ.out.2 (Option.some.inj h1).symm
            cases this
          rw [HRV.out, decide_eq_false hne]; rfl
      · obtain rfl : k = n := by omega
        have HS := Lib.hid hS
        clear hS
        go_wp2
        go_ret
        refine ⟨?_, HS.out⟩
        have he : x = y := by
          have := HK.out
          rwa [List.take_of_length_le (by rw [HN.out.1]; exact Nat.le_refl _), List.take_of_length_le (by rw [HN.out.2]; exact Nat.le_refl _)] at this
        rw [HRV.out, decide_eq_true he]; rfl
  · have bz : ((n : Int) != (m : Int)) = true := by simp; omega
    have hne2 : x ≠ y := fun e => hne (by rw [← HN.out.1, ← HN.out.2, e])
    have HNE := Lib.hid hne2
    clear hne hne2
    go_enter Tryz.func18, Tryz.ntmps18
    go_wp2
    go_ret
    exact ⟨by rw [HRV.out, decide_eq_false HNE.out]; rfl, H.out⟩
end Go.Proofs.YtfapiopnjllnnaaGreatDoor
/- Package title in plain, further: shares of known parties; the example of the section. -/
namespace PA
open Go
def ShSup (S : Shs) : Prop := ∀ k, (S k).isSome = true → 0 ≤ k ∧ k < (10001 : Nat)
def Known (x : Ac) : Prop := (0 ≤ x.p ∧ x.p < (10001 : Nat)) ∧ 0 ≤ x.q ∧ x.q < (10001 : Nat)
theorem ShSup.first {p : Int} (h : 0 ≤ p ∧ p < (10001 : Nat)) : ShSup (first1 p) := by
  intro k hk
  unfold first1 setSh at hk
  split at hk
  · rename_i e; rw [e]; exact h
  · cases hk
theorem ShSup.set {S : Shs} (h : ShSup S) {p : Int} (hp : 0 ≤ p ∧ p < (10001 : Nat)) (r : Rt) : ShSup (setSh S p r) := by
  intro k hk
  unfold setSh at hk
  split at hk
  · rename_i e; rw [e]; exact hp
  · exact h k hk
theorem stepT_sup {S : Shs} (h : ShSup S) (x : Ac) (hx : x.k = 16 → Known x) : ShSup (PA.stepT S x).1 := by
  unfold PA.stepT
  split
  · rename_i e
    unfold moveP
    split
    · exact h
    · split
      · exact h
      · exact (h.set (hx e).1 _).set (hx e).2 _
  · exact h
theorem walkT_sup {σ : Type} (file fday day : Int) (ev : σ → Nat → Ac → Bool → σ) : ∀ (l : List Ac) (i : Nat) (S : Shs) (s : σ), ShSup S → (∀ x ∈ l, x.k = 16 → Known x) → ShSup (walkT file fday day ev i l S s).1
  | [], _, _, _, h, _ => h
  | x :: l, i, S, s, h, hl => by
    unfold walkT
    split
    · exact walkT_sup file fday day ev l _ _ _ (stepT_sup h x (hl x (by simp))) fun y hy => hl y (by simp [hy])
    · exact walkT_sup file fday day ev l _ _ _ h fun y hy => hl y (by simp [hy])
def acNum (k d n f p q : Int) (r : Rt) : Ac := ⟨k, d, n, f, 0, p, q, 0, 0, r.n, r.d, Sv.none, Sv.none, Sv.none, Sv.none, 0, 0, Sv.none, Sv.none⟩
def exA : Ac := acNum 0 10 0 4 1 (-1) ⟨0, 0⟩
def exB : Ac := acNum 16 20 1 4 1 2 ⟨1, 3⟩
def exC : Ac := acNum 16 30 2 4 2 3 ⟨1, 2⟩
def exL : List Ac := [exA, exB, exC]
def exS : Shs := setSh (setSh (first1 1) 1 ⟨2, 3⟩) 2 ⟨1, 3⟩
def exW : List (Int × Rt) := [(1, ⟨2, 3⟩), (2, ⟨1, 3⟩)]
end PA
namespace Go.Proofs.YtfapiopnjllnnaaGreatDoor
open PA
theorem exL_key : exL.Pairwise KeyNe := by
  unfold exL KeyNe
  simp [exA, exB, exC, acNum]
theorem exL_asc : Asc cmpK exL := by
  unfold exL Asc
  simp [exA, exB, exC, acNum, cmpK]
theorem exL_sort : sortK exL = exL := (sortK_of (.refl _) exL_asc exL_key).symm
theorem exL_fine : ActsFine exL := by
  intro x hx hk
  simp only [exL, List.mem_cons, List.not_mem_nil, or_false] at hx
  rcases hx with rfl | rfl | rfl
  · exact absurd hk (by decide)
  · exact ⟨by decide, by decide⟩
  · exact ⟨by decide, by decide⟩
theorem exL_known : ∀ x ∈ exL, x.k = 16 → Known x := by
  intro x hx hk
  simp only [exL, List.mem_cons, List.not_mem_nil, or_false] at hx
  rcases hx with rfl | rfl | rfl
  · exact absurd hk (by decide)
  · unfold Known; decide
  · unfold Known; decide
theorem exL_filed : filedT 4 (sortK exL) = some exA := by rw [exL_sort]; rfl
theorem exS_25 : finT 4 25 exA exL = exS := by
  unfold finT
  rw [exL_sort]
  rfl
theorem exS_40 : finT 4 40 exA exL = exS := by
  unfold finT
  rw [exL_sort]
  rfl
theorem exF : failT 4 exA exL = [2] := by
  unfold failT
  rw [exL_sort]
  rfl
theorem exW_of : OwnOf exS exW := by
  refine ⟨by simp [exW], fun p r => ?_⟩
  unfold exS first1 setSh exW
  by_cases h2 : p = 2
  · subst h2
    simp
    constructor
    · rintro rfl; exact ⟨rfl, by decide⟩
    · rintro ⟨h, -⟩; exact h.symm
  · by_cases h1 : p = 1
    · subst h1
      simp
      constructor
      · rintro rfl; exact ⟨rfl, by decide⟩
      · rintro ⟨h, -⟩; exact h.symm
    · simp [h1, h2]
theorem exErr (day : Int) (h : 10 ≤ day) (h2 : day ≤ 131072) : titleErr 4 day (sortK exL) = 0 := by
  unfold titleErr
  rw [exL_filed, if_neg (by omega)]
  show (if day < 10 then 7 else 0) = 0
  rw [if_neg (by omega)]
theorem exSup (day : Int) : ∀ k, (finT 4 day exA exL k).isSome = true → 0 ≤ k ∧ k < (10001 : Nat) := by
  unfold finT
  rw [exL_sort]
  exact walkT_sup _ _ _ _ _ _ _ _ (ShSup.first (by decide)) exL_known
end Go.Proofs.YtfapiopnjllnnaaGreatDoor
