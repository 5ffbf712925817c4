/- Title: held, SameHeld; licences as cells. -/
import Derived.Test.YtfapiopnjllnnaaGreatDoorGTitleApart32
import Derived.Test.YtfapiopnjllnnaaGreatDoorGTitleApart26
import Derived.Laws.StructEq
namespace Go.Proofs.YtfapiopnjllnnaaGreatDoor
open Go.RowKit PA
attribute [local go_sem] Oper.semAt_some
theorem hlC_at (s : List Hl) (i : Nat) (hi : i < s.length) : (hlC s)[i * 4]? = some (.int .i64 s[i].a) ∧ (hlC s)[i * 4 + 1]? = some (.int .i64 s[i].b) ∧ (hlC s)[i * 4 + 2]? = some (.int .i64 s[i].c) ∧ (hlC s)[i * 4 + 3]? = some (.int .i64 s[i].d) := by
  have e : s = s.take i ++ s[i] :: s.drop (i + 1) := by rw [← List.drop_eq_getElem_cons hi, List.take_append_drop]
  have hl : (hlC (s.take i)).length = i * 4 := by rw [hlC_len, List.length_take, Nat.min_eq_left (by omega)]
  have key : ∀ j, j < 4 → (hlC s)[i * 4 + j]? = ([Value.int .i64 s[i].a, .int .i64 s[i].b, .int .i64 s[i].c, .int .i64 s[i].d])[j]? := fun j hj => by
    conv => lhs; rw [e]
    unfold hlC at hl ⊢
    rw [List.flatMap_append, List.getElem?_append_right (by omega), hl, Nat.add_sub_cancel_left, List.flatMap_cons, List.getElem?_append_left (by simpa using hj)]
  exact ⟨key 0 (by omega), key 1 (by omega), key 2 (by omega), key 3 (by omega)⟩
theorem hl_cells {W w : World} {A : Assn} {E : Nat} {a : Option Addr} {n c : Nat} {s : List Hl} (hn : s.length = n) (h : Sat W w (sep (osl E 4 a n c (hlC s)) A)) (i : Nat) (hi : i < n) :
    ∃ g x, a = some ⟨g, 0, none⟩ ∧ s[i]? = some x ∧ w.cell? ⟨g, i * 4, none⟩ = some (.int .i64 x.a) ∧ w.cell? ⟨g, i * 4 + 1, none⟩ = some (.int .i64 x.b) ∧ w.cell? ⟨g, i * 4 + 2, none⟩ = some (.int .i64 x.c) ∧ w.cell? ⟨g, i * 4 + 3, none⟩ = some (.int .i64 x.d) := by
  have hil : i < s.length := by omega
  obtain ⟨g, rfl, hc⟩ := h.osl_at (fun e => by have := congrArg List.length e; rw [hlC_len, List.length_nil] at this; omega)
  obtain ⟨k0, k1, k2, k3⟩ := hlC_at s i hil
  exact ⟨g, s[i], rfl, by rw [List.getElem?_eq_getElem hil], hc _ _ k0, hc _ _ k1, hc _ _ k2, hc _ _ k3⟩
theorem hlC_take {s : List Hl} {k : Nat} {x : Hl} (h : s[k]? = some x) : hlC (s.take (k + 1)) = hlC (s.take k) ++ [.int .i64 x.a, .int .i64 x.b, .int .i64 x.c, .int .i64 x.d] := by
  obtain ⟨hk, e⟩ := List.getElem?_eq_some_iff.1 h
  rw [List.take_succ_eq_append_getElem hk, e, hlC_append]; rfl
theorem infoR25Held : (Tryz.prog.info? 97).map (fun i => (i.zero, i.size, i.bytes)) = some (some (.agg #[.int .i64 0, .int .i64 0, .int .i64 0, .int .i64 0]), 4, 32) := by kernel_rfl
set_option maxHeartbeats 1000000 in
theorem held_spec {W w : World} {A : Assn} (a : Option Addr) (n c : Nat) (s : List Hl) (hn : s.length = n) (h10 : n ≤ 20000) (h : Sat W w (sep (osl 68 4 a n c (hlC s)) A)) :
    Calls Tryz.prog 27 #[.slice a n c] w fun e w' => ∃ a' c', e = .returned (.slice a' n c') ∧ Sat W w' (sep (osl 97 4 a' n c' (hlC s)) (sep (osl 68 4 a n c (hlC s)) A)) := by
  have HN := Lib.hid hn
  have H := Lib.hid h
  have hnI : (n : Int) ≤ 20000 := by omega
  clear hn h
  go_enter Tryz.func27, Tryz.ntmps27
  go_wp2
  go_loopw [4, 3] (fun kv ov wr => ∃ (k : Nat) (a1 : Option Addr) (c1 : Nat) (vs : List Value), kv = .int .i64 k ∧ k ≤ n ∧ ov = .slice a1 k c1 ∧ Hid (vs = hlC (s.take k)) ∧ Sat W wr (sep (osl 97 4 a1 k c1 vs) (sep (osl 68 4 a n c (hlC s)) A))) (fun kv _ _ => n - (intOf kv).toNat)
  case atStart => exact ⟨0, none, 0, [], rfl, by omega, rfl, Lib.hid rfl, H.out.osl_nil _ _⟩
  case round =>
    obtain ⟨k, a1, c1, vs, rfl, hk, rfl, HV, hS⟩ := hrel
    by_cases hlt : k < n
    · have hltz : (k : Int) < (n : Int) := by omega
      have hkI : (k : Int) ≤ 20000 := by omega
      have hd := hS.drew
      obtain ⟨wd, hwd⟩ : ∃ wd, wd = wr.drew := ⟨_, rfl⟩
      rw [← hwd] at hd
      obtain ⟨g, x, rfl, hx, k0, k1, k2, k3⟩ := hl_cells HN.out hd.p1 k hlt
      obtain ⟨xa, xb, xc, xd⟩ := x
      have hB : Sat W (wd.alloc (.cells #[.int .i64 xa, .int .i64 xb, .int .i64 xc, .int .i64 xd] 97)) (sep (osl 97 4 a1 k c1 vs) (sep (osl 68 4 (some ⟨g, 0, none⟩) n c (hlC s)) A)) := hd.alloc0 _
      have HSRC := Lib.hid (new_src wd [.int .i64 xa, .int .i64 xb, .int .i64 xc, .int .i64 xd] 97)
      have HX := Lib.hid hx
      have HWD := Lib.hid hwd
      have HB := Lib.hid hB
      clear hd hwd hB hx hS H
      go_wp2_with fail
      refine wp_region_canon rfl (fun _ => True) [(0, .p), (1, .p), (2, .p), (3, .p), (4, .p), (5, .t), (6, .p), (7, .p), (8, .p), (9, .p), (10, .t), (11, .p), (12, .p), (13, .p), (14, .p), (15, .t), (16, .p), (17, .p), (18, .p), (19, .p), (20, .t), (21, .p), (22, .e false), (23, .e false), (24, .p)] (by kernel_rfl) ?_
      have hS0 : True := trivial
      rw [← HWD.out]
      (repeat ((first | (refine C_p (v := ?_) rfl rfl (fun w' => ?_) ?_; rotate_left; (go_simp; with_reducible rfl)) | (refine C_s (v := ?_) rfl rfl hS0 (fun w' hS => ?_) ?_; rotate_left; ((try dsimp only at hS); go_simp; with_reducible rfl)) | (refine C_t (v := ?_) rfl rfl ?_ ?_; rotate_left; (go_simp; with_reducible rfl)) | (refine C_po rfl rfl ?_) | (refine C_so rfl rfl hS0 ?_) | (refine C_to rfl rfl ?_)); simp only [Act.put, List.setIfInBounds_toArray, List.set_cons_zero, List.set_cons_succ]))
      clear k0 k1 k2 k3
      (refine C_e rfl rfl (fun K hK => ?_); go_simp)
      (refine hK _ _ (fun h => by cases h) ?_; clear hK K; (try simp only [Act.put, List.setIfInBounds_toArray, List.set_cons_zero, List.set_cons_succ]))
      refine C_e rfl rfl (fun K hK => ?_)
      refine wp_append_osl (.tmp 11) (.tmp 33) 65 rfl 97 4 32 _ Tryz.underlying65 infoR25Held rfl rfl HB.out rfl [.int .i64 xa, .int .i64 xb, .int .i64 xc, .int .i64 xd] rfl (by simp) (by intro b' hb; cases hb; exact HSRC.out) (by simp [Value.oneCell']) (by omega) (by unfold maxLen; omega) ?_
      intro a2 c2 w4 h5
      have H5 := Lib.hid h5
      clear h5 HB HSRC
      (refine hK _ _ (fun h => by cases h) ?_; clear hK K; (try simp only [Act.put, List.setIfInBounds_toArray, List.set_cons_zero, List.set_cons_succ]))
      (repeat ((first | (refine C_p (v := ?_) rfl rfl (fun w' => ?_) ?_; rotate_left; (go_simp; with_reducible rfl)) | (refine C_s (v := ?_) rfl rfl hS0 (fun w' hS => ?_) ?_; rotate_left; ((try dsimp only at hS); go_simp; with_reducible rfl)) | (refine C_t (v := ?_) rfl rfl ?_ ?_; rotate_left; (go_simp; with_reducible rfl)) | (refine C_po rfl rfl ?_) | (refine C_so rfl rfl hS0 ?_) | (refine C_to rfl rfl ?_)); simp only [Act.put, List.setIfInBounds_toArray, List.set_cons_zero, List.set_cons_succ]))
      refine C_nil ?_
      go_wp2
      go_roundw
      case rel => exact ⟨k + 1, a2, c2, _, by go_num, by omega, rfl, Lib.hid (by rw [hlC_take HX.out, ← HV.out]), H5.out⟩
      case measure => simp [intOf]; omega
    · obtain rfl : k = n := by omega
      have HS := Lib.hid hS
      clear hS
      go_wp2
      go_ret
      refine ⟨a1, c1, rfl, ?_⟩
      have e : vs = hlC s := by rw [HV.out, List.take_of_length_le (by rw [HN.out]; exact Nat.le_refl _)]
      have h9 := HS.out
      rw [e] at h9
      exact h9
theorem held_eqIn (T : Nat) (h1 : Tryz.prog.underlying T = some (.struct (Tryz.prog.fieldsOf T))) (h2 : Tryz.prog.stoodInHeld T = false) (h3 : Tryz.prog.fieldsOf T = Tryz.prog.fieldsOf 68) (w : World) (x y : Hl) :
    (Op.equalIn 10000 T (.agg #[.int .i64 x.a, .int .i64 x.b, .int .i64 x.c, .int .i64 x.d]) (.agg #[.int .i64 y.a, .int .i64 y.b, .int .i64 y.c, .int .i64 y.d])).run Tryz.prog w = .ok (decide (x = y)) w := by
  obtain ⟨a, b, c, d⟩ := x
  obtain ⟨a', b', c', d'⟩ := y
  have e := run_equalIn_struct (P := Tryz.prog) w 9999 T #[.int .i64 a, .int .i64 b, .int .i64 c, .int .i64 d] #[.int .i64 a', .int .i64 b', .int .i64 c', .int .i64 d'] h1 h2
  rw [h3] at e
  have p0 : ∀ a b c d : Int, (part 3 #[.int .i64 a, .int .i64 b, .int .i64 c, .int .i64 d] 0).run Tryz.prog w = .ok (.int .i64 a) w := fun a b c d => by kernel_rfl
  have p1 : ∀ a b c d : Int, (part 3 #[.int .i64 a, .int .i64 b, .int .i64 c, .int .i64 d] 1).run Tryz.prog w = .ok (.int .i64 b) w := fun a b c d => by kernel_rfl
  have p2 : ∀ a b c d : Int, (part 3 #[.int .i64 a, .int .i64 b, .int .i64 c, .int .i64 d] 2).run Tryz.prog w = .ok (.int .i64 c) w := fun a b c d => by kernel_rfl
  have p3 : ∀ a b c d : Int, (part 3 #[.int .i64 a, .int .i64 b, .int .i64 c, .int .i64 d] 3).run Tryz.prog w = .ok (.int .i64 d) w := fun a b c d => by kernel_rfl
  have r0 : ∀ a b : Int, (Op.equalIn 9999 3 (.int .i64 a) (.int .i64 b)).run Tryz.prog w = .ok (a == b) w := fun a b => run_equalIn_int (P := Tryz.prog) w 9998 3 .i64 .i64 a b Tryz.underlying3
  rw [show (10000 : Nat) = 9999 + 1 from rfl, e]
  clear e
  by_cases z1 : a = a'
  · by_cases z2 : b = b'
    · by_cases z3 : c = c' <;> by_cases z4 : d = d' <;> simp [Program.fieldsOf, Tryz.underlying68, Op.eqFields, p0, p1, p2, p3, r0, z1, z2, z3, z4]
    · simp [Program.fieldsOf, Tryz.underlying68, Op.eqFields, p0, p1, r0, z1, z2]
  · simp [Program.fieldsOf, Tryz.underlying68, Op.eqFields, p0, r0, z1]
theorem r25held_neq (w : World) (x y : Hl) : (binOp .neq 97 (.agg #[.int .i64 x.a, .int .i64 x.b, .int .i64 x.c, .int .i64 x.d]) (.agg #[.int .i64 y.a, .int .i64 y.b, .int .i64 y.c, .int .i64 y.d])).run Tryz.prog w = .ok (.bool (!decide (x = y))) w := by
  rw [run_neq_struct, held_eqIn 97 (by kernel_rfl) (by kernel_rfl) (by kernel_rfl)]
  simp
theorem theld_eql (w : World) (x y : Hl) : (binOp .eql 68 (.agg #[.int .i64 x.a, .int .i64 x.b, .int .i64 x.c, .int .i64 x.d]) (.agg #[.int .i64 y.a, .int .i64 y.b, .int .i64 y.c, .int .i64 y.d])).run Tryz.prog w = .ok (.bool (decide (x = y))) w := by
  rw [run_eql_struct, held_eqIn 68 (by kernel_rfl) (by kernel_rfl) rfl]
  simp
set_option maxHeartbeats 1000000 in
theorem sameHeld_spec {W w : World} {A : Assn} (a b : Option Addr) (n m c d : Nat) (x y : List Hl) (hn : x.length = n) (hm : y.length = m) (h10 : n ≤ 20000) (h11 : m ≤ 20000) (h : Sat W w (sep (osl 97 4 a n c (hlC x)) (sep (osl 97 4 b m d (hlC y)) A))) :
    Calls Tryz.prog 26 #[.slice a n c, .slice b m d] w fun e w' => e = .returned (.bool (decide (x = y))) ∧ Sat W w' (sep (osl 97 4 a n c (hlC x)) (sep (osl 97 4 b m d (hlC y)) A)) := by
  obtain ⟨rv, hrv⟩ : ∃ rv, rv = decide (x = y) := ⟨_, rfl⟩
  rw [← hrv]
  have HRV := Lib.hid hrv
  have HN := Lib.hid (And.intro hn hm)
  have H := Lib.hid h
  have hnI : (n : Int) ≤ 20000 := by omega
  have hmI : (m : Int) ≤ 20000 := by omega
  clear hrv hn hm h
  by_cases hne : n = m
  · subst hne
    go_enter Tryz.func26, Tryz.ntmps26
    go_wp2
    go_loopw [5] (fun kv wr => ∃ k : Nat, kv = .int .i64 k ∧ k ≤ n ∧ Hid (x.take k = y.take k) ∧ Sat W wr (sep (osl 97 4 a n c (hlC x)) (sep (osl 97 4 b n d (hlC y)) A))) (fun kv _ => n - (intOf kv).toNat)
    case atStart => exact ⟨0, rfl, by omega, Lib.hid rfl, H.out⟩
    case round =>
      obtain ⟨k, rfl, hk, HK, hS⟩ := hrel
      by_cases hlt : k < n
      · have hltz : (k : Int) < (n : Int) := by omega
        have hkI : (k : Int) ≤ 20000 := by omega
        have hd := hS.drew
        obtain ⟨wd, hwd⟩ : ∃ wd, wd = wr.drew := ⟨_, rfl⟩
        rw [← hwd] at hd
        obtain ⟨g, x1, rfl, hx1, k0, k1, k2, k3⟩ := hl_cells HN.out.1 hd k hlt
        obtain ⟨g', x2, rfl, hx2, j0, j1, j2, j3⟩ := hl_cells HN.out.2 hd.p1 k hlt
        obtain ⟨bq, hbq⟩ : ∃ bq, bq = !decide (x1 = x2) := ⟨_, rfl⟩
        have hiff : bq = false ↔ x1 = x2 := by
          rw [hbq]
          simp
        have HQ := Lib.hid hiff
        have HX := Lib.hid (And.intro hx1 hx2)
        have HWD := Lib.hid hwd
        have HD := Lib.hid hd
        have hq2 := fun w0 => r25held_neq w0 x1 x2
        rw [← hbq] at hq2
        obtain ⟨a1, b1, c1, d1⟩ := x1
        obtain ⟨a2, b2, c2, d2⟩ := x2
        dsimp only at k0 k1 k2 k3 j0 j1 j2 j3 hq2
        clear hd hwd hx1 hx2 hS H hiff hbq
        go_wp2_with fail
        refine wp_region_canon rfl (fun _ => True) [(0, .p), (1, .p), (2, .p), (3, .t), (4, .p), (5, .p), (6, .p), (7, .t), (8, .p)] (by kernel_rfl) ?_
        have hS0 : True := trivial
        rw [← HWD.out]
        (repeat ((first | (refine C_p (v := ?_) rfl rfl (fun w' => ?_) ?_; rotate_left; (go_simp; with_reducible rfl)) | (refine C_s (v := ?_) rfl rfl hS0 (fun w' hS => ?_) ?_; rotate_left; ((try dsimp only at hS); go_simp; with_reducible rfl)) | (refine C_t (v := ?_) rfl rfl ?_ ?_; rotate_left; (go_simp; with_reducible rfl)) | (refine C_po rfl rfl ?_) | (refine C_so rfl rfl hS0 ?_) | (refine C_to rfl rfl ?_)); simp only [Act.put, List.setIfInBounds_toArray, List.set_cons_zero, List.set_cons_succ]))
        refine C_nil ?_
        clear k0 k1 k2 k3 j0 j1 j2 j3 hq2
        cases bq with
        | false =>
          go_wp2
          go_roundw
          case rel =>
            refine ⟨k + 1, by go_num, by omega, Lib.hid ?_, HD.out⟩
            obtain ⟨l1, e1⟩ := List.getElem?_eq_some_iff.1 HX.out.1
            obtain ⟨l2, e2⟩ := List.getElem?_eq_some_iff.1 HX.out.2
            rw [List.take_succ_eq_append_getElem l1, List.take_succ_eq_append_getElem l2, HK.out, e1, e2, HQ.out.1 rfl]
          case measure => simp [intOf]; omega
        | true =>
          go_wp2
          go_ret
          refine ⟨?_, HD.out⟩
          have hne : x ≠ y := fun e => by
            have h1 := HX.out.1
            rw [e, HX.out.2] at h1
            have := HQ.out.2 (Option.some.inj h1).symm
            cases this
          rw [HRV.out, decide_eq_false hne]; rfl
      · obtain rfl : k = n := by omega
        have HS := Lib.hid hS
        clear hS
        go_wp2
        go_ret
        refine ⟨?_, HS.out⟩
        have he : x = y := by
          have := HK.out
          rwa [List.take_of_length_le (by rw [HN.out.1]; exact Nat.le_refl _), List.take_of_length_le (by rw [HN.out.2]; exact Nat.le_refl _)] at this
        rw [HRV.out, decide_eq_true he]; rfl
  · have bz : ((n : Int) != (m : Int)) = true := by simp; omega
    have hne2 : x ≠ y := fun e => hne (by rw [← HN.out.1, ← HN.out.2, e])
    have HNE := Lib.hid hne2
    clear hne hne2
    go_enter Tryz.func26, Tryz.ntmps26
    go_wp2
    go_ret
    exact ⟨by rw [HRV.out, decide_eq_false HNE.out]; rfl, H.out⟩
end Go.Proofs.YtfapiopnjllnnaaGreatDoor
