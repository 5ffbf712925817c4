/- JournalScans, the walk. -/
import Derived.Test.YtdaknmcmjnbfeaaJ10
namespace Go.Proofs.Ytdaknmcmjnbfeaa
open Go.RowKit PA
theorem rows_of_all {I : Mem} : ∀ {vs : List Value} {xs : List (List UInt8)}, All2 (fun v x => rBytes.rel I [v] x) vs xs → (rBytes.rows 1).rel I vs xs
  | [], [], _ => ⟨[], rfl, trivial⟩
  | v :: vs, x :: xs, h => by
    obtain ⟨css, e, hall⟩ := rows_of_all h.2
    exact ⟨[v] :: css, by rw [e]; rfl, ⟨h.1, rfl⟩, hall⟩
theorem rows_alloc {W w : World} {A : Assn} {I : Mem} (h : Sat W w (sep (kn I) A)) (vs : List Value) (xs : List (List UInt8)) (t : TypeId) (hall : All2 (fun v x => rBytes.rel I [v] x) vs xs) (hb : xs.length ≤ maxLen) :
    ∃ J, Mem.le I J ∧ (rBytes.slice 1).rel J [.slice (some ⟨w.heap.size, 0, none⟩) xs.length xs.length] xs ∧ Sat W (w.alloc (.cells vs.toArray t)) (sep (kn J) A) := by
  obtain ⟨J, hJ, hc, h2⟩ := (h.alloc (.cells vs.toArray t)).settle.learn
  refine ⟨J, hJ, ⟨_, _, vs, rfl, ⟨Nat.le_refl _, hb, fun h => (by cases h)⟩, .inr ⟨w.heap.size, 0, _, t, (0, 0), rfl, hc, fun i u hu => by simpa using hu⟩, (rBytes.rows 1).mono hJ (rows_of_all hall)⟩, h2⟩
set_option maxRecDepth 100000 in
set_option maxHeartbeats 8000000 in
theorem journalScans_walk (a0 : Option Addr) (len0 cap0 : Nat) (z0 : List Int) (a1 : Option Addr) (len1 cap1 : Nat) (z1 : List Int) (a2 : Int) (a3 : Int) (w : World)
    (w0 : IsArgB w a0 len0 cap0 z0) (w1 : IsArg w a1 len1 cap1 z1) (w2 : (Lit.int .i64 a2).wf = true) (w3 : (Lit.int .u8 a3).wf = true) :
    Calls Try.prog 4 #[.slice a0 len0 cap0, .slice a1 len1 cap1, .int .i64 a2, .int .u8 a3] w fun e w' => e = .returned (.bool true) ∧ Below w.heap.size w w' := by
  obtain ⟨raw, hraw, hr0⟩ := argB w0
  obtain ⟨ns, hns, hr1, h64⟩ := argI w1
  have hn64 := i64_of_wf w2
  obtain ⟨y, hy⟩ : ∃ y : UInt8, a3 = (y.toNat : Int) := ⟨UInt8.ofNat a3.toNat, by
    have : 0 ≤ a3 ∧ a3 ≤ 255 := bounds_u8 w3
    simp; omega⟩
  subst hy
  have h := Sat.startKn w
  obtain ⟨ac, hac⟩ := slice_form hr0
  have HR0 := Lib.hid hr0
  have HR1 := Lib.hid hr1
  have HRAW := Lib.hid hraw
  have H64 := Lib.hid h64
  have HN := Lib.hid hn64
  clear hr0 w0 w1 w2 w3 hraw h64 hn64 hns hac
  have hrec := records30_spec _ ns h hr1 H64.out
  have HREC := Lib.hid hrec
  clear hr1 hrec h
  go_enter Try.func4, Try.ntmps4
  go_wp2_with fail
  refine HREC.out.mono ?_
  rintro e w1 ⟨ra, rc, vs, X, rfl, hxl, hx10, h1⟩
  clear HREC
  obtain ⟨nx, hnx⟩ : ∃ nx, nx = X.length := ⟨_, rfl⟩
  have hnx6 : nx ≤ 6 := by omega
  have h2 := h1.slice_of_osl (R := rBytes) (k := 1) rfl
  rw [← hnx] at h2 ⊢
  have hX200 : ∀ x ∈ X, x.length ≤ 200 := fun x hx => by have := hx10 x hx; omega
  obtain ⟨I3, hI3, hxx, h3⟩ := h2.learn
  have HX200 := Lib.hid hX200
  have HXl := Lib.hid hnx
  have HXX := Lib.hid hxx
  have HI3 := Lib.hid hI3
  have h17 := h3.osl_nil 5 1
  clear h1 h2 h3 hxl hx10 hX200 hnx hxx hI3
  go_wp2_with fail
  go_loopw [10, 11] (fun ov iv wr => ∃ (k : Nat) (a : Option Addr) (c : Nat), k ≤ nx ∧ ov = .slice a (framesJ 0 (X.take k)).length c ∧ iv = .int .i64 (k : Nat) ∧ Sat w wr (sep (osl 5 1 a (framesJ 0 (X.take k)).length c ((framesJ 0 (X.take k)).map bv)) (sep (kn I3) emp))) (fun _ iv _ => nx - (intOf iv).toNat)
  case atStart => exact ⟨0, none, 0, Nat.zero_le _, rfl, rfl, h17⟩
  case round =>
    clear h17
    obtain ⟨k, a, c, hk, rfl, rfl, hS⟩ := hrel
    have hfle := framesJ_take_le X k (by have := HXl.out; omega) HX200.out
    obtain ⟨F, hF⟩ : ∃ F, F = framesJ 0 (X.take k) := ⟨_, rfl⟩
    rw [← hF] at hS hfle ⊢
    obtain ⟨n, hn⟩ : ∃ n, n = F.length := ⟨_, rfl⟩
    rw [← hn] at hS hfle ⊢
    have HFF := Lib.hid hF
    have HNF := Lib.hid hn
    clear hF hn
    by_cases hlt : k < nx
    · have g2 : (k : Int) < (nx : Int) := by omega
      have hkX : k < X.length := by have := HXl.out; omega
      obtain ⟨gb, go, gv, rfl, hcell, hgr⟩ := slice_elem HXX.out hS.p1.ext k hkX
      have hxk := HX200.out _ (List.getElem_mem hkX)
      have hsucc := framesJ_take_succ X k hkX
      rw [← HFF.out] at hsucc
      obtain ⟨xk, hxk2⟩ : ∃ xk, xk = X[k] := ⟨_, rfl⟩
      rw [← hxk2] at hgr hxk hsucc
      have HG := Lib.hid hgr
      have HXK := Lib.hid hxk
      have HS := Lib.hid hsucc
      clear hxk2 hgr hxk hsucc
      have hS2 := hS.p1
      clear hS
      go_wp2_with fail
      refine (rframe_spec (k : Int) _ xk hS2 HG.out ⟨by omega, by omega⟩ (by have := HXK.out; omega)).mono ?_
      rintro e w7 ⟨ka, kc, rfl, h1⟩
      obtain ⟨fk, hfk⟩ : ∃ fk, fk = frameJ k xk := ⟨_, rfl⟩
      rw [← hfk] at h1 HS ⊢
      have hfkl : fk.length ≤ 240 := by rw [hfk]; have := frameJ_le k xk (by omega) (by omega) (by have := HXK.out; omega); have := HXK.out; omega
      obtain ⟨I4, hI4, hb4, h2⟩ := h1.bytes_of_osl.2.learn
      have hsrc := rel_src hb4 h2.ext
      have HSR := Lib.hid hsrc
      obtain ⟨fkl, hfkl2⟩ : ∃ fkl, fkl = fk.length := ⟨_, rfl⟩
      rw [← hfkl2] at HSR hfkl ⊢
      have HFKL := Lib.hid hfkl2
      have HI4 := Lib.hid hI4
      clear hS2 hfk h1 hsrc hI4 hb4 hfkl2 hcell
      go_wp2_with (at_builtin; refine wpl_append_osl rfl (.tmp 26) (.tmp 32) 23 rfl 5 1 1 (.int .u8 0) Try.underlying23 infoU8w rfl rfl h2.p1 rfl (fk.map bv) (by rw [List.length_map, HFKL.out]; simp) HSR.out.2.1 HSR.out.2.2 (bv_one fk) (by omega) (by unfold maxLen; omega) ?_)
      intro a9 c9 w9 h9
      clear h2
      go_wp2_with fail
      go_roundw
      case rel =>
        have e : (F ++ fk).length = n + fkl := by rw [List.length_append, ← HNF.out, ← HFKL.out]
        refine ⟨k + 1, a9, c9, by omega, by rw [HS.out, e], by go_num, ?_⟩
        rw [HS.out, e, List.map_append]
        exact (h9.p1.kn_mono HI4.out).p1
      case measure => simp [intOf]; omega
    · have g2 : ¬ (k : Int) < (nx : Int) := by omega
      obtain rfl : k = nx := by omega
      clear hlt hk g2
      have hx0 := HI3.out
      by_cases hn0 : n = 0
      case' pos =>
        have g3 : ¬ (0 : Int) < (n : Int) := by omega
        obtain rfl := hn0
        go_wp2_with fail
        obtain ⟨w2, hw2⟩ : ∃ w2, w2 = wr := ⟨_, rfl⟩
        obtain ⟨F2, hF2⟩ : ∃ F2, F2 = F := ⟨_, rfl⟩
        have hsl : F2.length ≤ 2000 := by rw [hF2, ← HNF.out]; omega
        obtain ⟨I4, hI4, hb4, h6⟩ := hS.bytes_of_osl.2.learn
        obtain ⟨v10, hv10⟩ : ∃ v10, v10 = Value.slice a 0 c := ⟨_, rfl⟩
        rw [← hv10, ← hF2] at hb4
        rw [← hv10, ← hw2]
        rw [← hw2] at h6
        clear g3
      case' neg =>
        have g3 : (0 : Int) < (n : Int) := by omega
        go_wp2_with fail
        refine (around_spec a2 n wr HN.out.1 HN.out.2 (by omega) (by omega)).mono ?_
        rintro e w2 ⟨rfl, rfl⟩
        have hq := aroundI_lt a2 n (by omega)
        obtain ⟨q, hq2⟩ : ∃ q : Nat, aroundI a2 n = (q : Int) := ⟨(aroundI a2 n).toNat, by omega⟩
        rw [hq2] at hq ⊢
        have hqn : q < n := by omega
        obtain ⟨g, rfl, hc1, hf1, h5⟩ := hS.osl_set q (by rw [List.length_map, ← HNF.out]; exact hqn) (.int .u8 (y.toNat : Int))
        have e5 : (F.map bv).set q (.int .u8 (y.toNat : Int)) = (F.set q y).map bv := by rw [List.map_set]; rfl
        rw [e5] at h5
        obtain ⟨F2, hF2⟩ : ∃ F2, F2 = F.set q y := ⟨_, rfl⟩
        have hsl : F2.length ≤ 2000 := by rw [hF2, List.length_set, ← HNF.out]; omega
        rw [← hF2] at h5
        clear hq2 e5
        go_wp2_with fail
        obtain ⟨w2, hw2⟩ : ∃ w2, w2 = wr.setCell ⟨g, q, none⟩ (.int .u8 (y.toNat : Int)) := ⟨_, rfl⟩
        obtain ⟨I4, hI4, hb4, h6⟩ := h5.bytes_of_osl.2.learn
        obtain ⟨v10, hv10⟩ : ∃ v10, v10 = Value.slice (some ⟨g, 0, none⟩) n c := ⟨_, rfl⟩
        rw [← hv10] at hb4
        rw [← hv10, ← hw2]
        rw [← hw2] at h6
        clear g3 h5 hc1 hf1 hq hqn
      all_goals
        have hi4 := Mem.le_trans HI3.out hI4
        have HB4 := Lib.hid hb4
        have HI4 := Lib.hid hi4
        have HSL := Lib.hid hsl
        obtain ⟨k1, hk1⟩ : ∃ k1, k1 = min len0 5 := ⟨_, rfl⟩
        have hmin : (if (5 : Int) < (len0 : Int) then (5 : Int) else (len0 : Int)) = (k1 : Int) := by split <;> omega
        have hk5 : k1 ≤ len0 := by omega
        clear hS hw2 hv10 hI4 hi4 hb4 hF2 hsl hk1 hfle hnx6 hx0
        try clear hn0
        have hS0 : True := trivial
        have hlc : len0 ≤ cap0 ∧ cap0 ≤ 9223372036854775807 := by
          obtain ⟨a', c', e, hw, -⟩ := bytes_rel.1 HR0.out
          simp only [Value.slice.injEq] at e
          obtain ⟨-, rfl, rfl⟩ := e
          exact ⟨hw.1, hw.2.1⟩
        have hkc : k1 ≤ cap0 := by omega
        have hlen0 : (len0 : Int) ≤ 9223372036854775807 := by omega
        have hrt := rel_take k1 HRAW.out hk5 HR0.out
        have HRT := Lib.hid hrt
        have hrtl : (raw.take k1).length ≤ 5 := by rw [List.length_take]; omega
        have HRTL := Lib.hid hrtl
        have hfew := few_spec _ raw 60 h6.drew (rBytes.mono HI4.out HR0.out) (by omega)
        have HFEW := Lib.hid hfew
        have hkcI : (k1 : Int) ≤ (cap0 : Int) := by omega
        have hk0I : (0 : Int) ≤ (k1 : Int) := by omega
        clear hrt hrtl hfew h6 hkc hk5 hlc
        refine wp_region_canon rfl (fun _ => True) [(0, .p), (2, .p), (3, .p), (4, .p), (5, .p), (6, .p), (7, .p), (1, .e false), (8, .e false), (9, .e false), (10, .p)] (by kernel_rfl) ?_
        (repeat (first | (refine C_p (v := ?_) rfl rfl (fun w' => ?_) ?_; rotate_left; (go_simp; with_reducible rfl); simp only [Act.put, List.setIfInBounds_toArray, List.set_cons_zero, List.set_cons_succ]) | (refine C_s (v := ?_) rfl rfl hS0 (fun w' hS => ?_) ?_; rotate_left; ((try dsimp only at hS); go_simp; with_reducible rfl); simp only [Act.put, List.setIfInBounds_toArray, List.set_cons_zero, List.set_cons_succ]) | (refine C_t (v := ?_) rfl rfl ?_ ?_; rotate_left; (go_simp; with_reducible rfl); simp only [Act.put, List.setIfInBounds_toArray, List.set_cons_zero, List.set_cons_succ]) | (refine C_po rfl rfl ?_; simp only [Act.put, List.setIfInBounds_toArray, List.set_cons_zero, List.set_cons_succ]) | (refine C_so rfl rfl hS0 ?_; simp only [Act.put, List.setIfInBounds_toArray, List.set_cons_zero, List.set_cons_succ]) | (refine C_to rfl rfl ?_; simp only [Act.put, List.setIfInBounds_toArray, List.set_cons_zero, List.set_cons_succ])))
        (refine C_e rfl rfl (fun K hK => ?_); go_simp)
        refine HFEW.out.mono ?_
        rintro e w3 ⟨ra2, rc2, rfl, h1⟩
        obtain ⟨t, ht⟩ : ∃ t, t = raw.take 60 := ⟨_, rfl⟩
        have htl : t.length ≤ 60 := by rw [ht, List.length_take]; omega
        rw [← ht] at h1 ⊢
        obtain ⟨I5, hI5, hb5, h2⟩ := h1.bytes_of_osl.2.learn
        have HB5 := Lib.hid hb5
        have HI5 := Lib.hid hI5
        have HTL := Lib.hid htl
        clear HFEW h1 ht hb5 hI5 htl
        (refine hK _ _ (fun h => by cases h) ?_; clear hK K; (try simp only [Act.put, List.setIfInBounds_toArray, List.set_cons_zero, List.set_cons_succ]))
        (repeat (first | (refine C_p (v := ?_) rfl rfl (fun w' => ?_) ?_; rotate_left; (go_simp; with_reducible rfl); simp only [Act.put, List.setIfInBounds_toArray, List.set_cons_zero, List.set_cons_succ]) | (refine C_s (v := ?_) rfl rfl hS0 (fun w' hS => ?_) ?_; rotate_left; ((try dsimp only at hS); go_simp; with_reducible rfl); simp only [Act.put, List.setIfInBounds_toArray, List.set_cons_zero, List.set_cons_succ]) | (refine C_t (v := ?_) rfl rfl ?_ ?_; rotate_left; (go_simp; with_reducible rfl); simp only [Act.put, List.setIfInBounds_toArray, List.set_cons_zero, List.set_cons_succ]) | (refine C_po rfl rfl ?_; simp only [Act.put, List.setIfInBounds_toArray, List.set_cons_zero, List.set_cons_succ]) | (refine C_so rfl rfl hS0 ?_; simp only [Act.put, List.setIfInBounds_toArray, List.set_cons_zero, List.set_cons_succ]) | (refine C_to rfl rfl ?_; simp only [Act.put, List.setIfInBounds_toArray, List.set_cons_zero, List.set_cons_succ])))
        (refine C_e rfl rfl (fun K hK => ?_); go_simp)
        refine (rframe_spec 1 _ (raw.take k1) h2 (rBytes.mono (Mem.le_trans HI4.out HI5.out) HRT.out) ⟨by omega, by omega⟩ (by have := HRTL.out; omega)).mono ?_
        rintro e w4 ⟨ra3, rc3, rfl, h3⟩
        obtain ⟨f1, hf1⟩ : ∃ f1, f1 = frameJ 1 (raw.take k1) := ⟨_, rfl⟩
        have hf1l : f1.length ≤ 45 := by rw [hf1]; have := frameJ_le 1 (raw.take k1) (by omega) (by omega) (by have := HRTL.out; omega); have := HRTL.out; omega
        rw [← hf1] at h3 ⊢
        obtain ⟨I6, hI6, hb6, h4⟩ := h3.bytes_of_osl.2.learn
        obtain ⟨a10, c10, rfl, -⟩ := sliceTo_rel HB4.out
        obtain ⟨I7, hI7, hrow, h5⟩ := rows_alloc h4 [.slice ra2 t.length rc2, .slice a10 F2.length c10, .slice ra3 f1.length rc3] [t, F2, f1] 23 ⟨rBytes.mono hI6 HB5.out, rBytes.mono (Mem.le_trans HI5.out hI6) HB4.out, hb6, trivial⟩ (by show 3 ≤ maxLen; decide)
        obtain ⟨L, hL⟩ : ∃ L, L = [t, F2, f1] := ⟨_, rfl⟩
        have hLl : L.length = 3 := by rw [hL]; rfl
        have hLs : ∀ l ∈ L, l.length ≤ 1000000 := by
          intro l hl
          rw [hL] at hl
          simp only [List.mem_cons, List.not_mem_nil, or_false] at hl
          rcases hl with rfl | rfl | rfl
          · have := HTL.out; omega
          · have := HSL.out; omega
          · omega
        rw [← hL] at hrow
        have HROW := Lib.hid hrow
        have HLL := Lib.hid hLl
        have HLS := Lib.hid hLs
        clear h2 h3 h4 hb6 hI6 hI7 hf1 hf1l hrow hL hLl hLs HB5 HB4
        (refine hK _ _ (fun h => by cases h) ?_; clear hK K; (try simp only [Act.put, List.setIfInBounds_toArray, List.set_cons_zero, List.set_cons_succ]))
        (repeat (first | (refine C_p (v := ?_) rfl rfl (fun w' => ?_) ?_; rotate_left; (go_simp; with_reducible rfl); simp only [Act.put, List.setIfInBounds_toArray, List.set_cons_zero, List.set_cons_succ]) | (refine C_s (v := ?_) rfl rfl hS0 (fun w' hS => ?_) ?_; rotate_left; ((try dsimp only at hS); go_simp; with_reducible rfl); simp only [Act.put, List.setIfInBounds_toArray, List.set_cons_zero, List.set_cons_succ]) | (refine C_t (v := ?_) rfl rfl ?_ ?_; rotate_left; (go_simp; with_reducible rfl); simp only [Act.put, List.setIfInBounds_toArray, List.set_cons_zero, List.set_cons_succ]) | (refine C_po rfl rfl ?_; simp only [Act.put, List.setIfInBounds_toArray, List.set_cons_zero, List.set_cons_succ]) | (refine C_so rfl rfl hS0 ?_; simp only [Act.put, List.setIfInBounds_toArray, List.set_cons_zero, List.set_cons_succ]) | (refine C_to rfl rfl ?_; simp only [Act.put, List.setIfInBounds_toArray, List.set_cons_zero, List.set_cons_succ])))
        (refine C_e rfl rfl (fun K hK => ?_); go_simp)
        (refine hK _ _ (fun h => by cases h) ?_; clear hK K; (try simp only [Act.put, List.setIfInBounds_toArray, List.set_cons_zero, List.set_cons_succ]))
        (repeat (first | (refine C_p (v := ?_) rfl rfl (fun w' => ?_) ?_; rotate_left; (go_simp; with_reducible rfl); simp only [Act.put, List.setIfInBounds_toArray, List.set_cons_zero, List.set_cons_succ]) | (refine C_s (v := ?_) rfl rfl hS0 (fun w' hS => ?_) ?_; rotate_left; ((try dsimp only at hS); go_simp; with_reducible rfl); simp only [Act.put, List.setIfInBounds_toArray, List.set_cons_zero, List.set_cons_succ]) | (refine C_t (v := ?_) rfl rfl ?_ ?_; rotate_left; (go_simp; with_reducible rfl); simp only [Act.put, List.setIfInBounds_toArray, List.set_cons_zero, List.set_cons_succ]) | (refine C_po rfl rfl ?_; simp only [Act.put, List.setIfInBounds_toArray, List.set_cons_zero, List.set_cons_succ]) | (refine C_so rfl rfl hS0 ?_; simp only [Act.put, List.setIfInBounds_toArray, List.set_cons_zero, List.set_cons_succ]) | (refine C_to rfl rfl ?_; simp only [Act.put, List.setIfInBounds_toArray, List.set_cons_zero, List.set_cons_succ])))
        refine C_nil ?_
        obtain ⟨q12, hq12⟩ : ∃ q12, q12 = w4.heap.size := ⟨_, rfl⟩
        rw [← hq12] at HROW ⊢
        obtain ⟨w5, hw5⟩ : ∃ w5, w5 = w4.alloc (.cells [Value.slice ra2 t.length rc2, .slice a10 F2.length c10, .slice ra3 f1.length rc3].toArray 23) := ⟨_, rfl⟩
        rw [← hw5] at h5 ⊢
        clear hq12 hw5
        go_wp2_with fail
        go_loopw [13] (fun iv wr => ∃ j : Nat, j ≤ 3 ∧ iv = .int .i64 (j : Nat) ∧ Sat w wr (sep (kn I7) emp)) (fun iv _ => 3 - (intOf iv).toNat)
        case atStart => exact ⟨0, by omega, rfl, h5⟩
        case round =>
          clear h5
          obtain ⟨j, hj, rfl, hS⟩ := hrel
          by_cases hlt : j < 3
          · have g5 : (j : Int) < 3 := by omega
            obtain ⟨b12, o12, vj, e12, hcj, hrj⟩ := slice_elem HROW.out hS.ext j (by rw [HLL.out]; exact hlt)
            simp only [Option.some.injEq, Addr.mk.injEq] at e12
            obtain ⟨rfl, rfl, -⟩ := e12
            rw [Nat.zero_add] at hcj
            obtain ⟨lj, hlj⟩ : ∃ lj, lj = L[j]'(by rw [HLL.out]; exact hlt) := ⟨_, rfl⟩
            have hljl : lj.length ≤ 1000000 := by rw [hlj]; exact HLS.out _ (List.getElem_mem _)
            rw [← hlj] at hrj
            have HRJ := Lib.hid hrj
            have HLJ := Lib.hid hljl
            have HLE := Lib.hid hlj
            clear hlj hrj hljl
            go_wp2_with fail
            refine (scan_spec vj lj hS HRJ.out HLJ.out).mono ?_
            rintro e w6 ⟨u, rfl, h6⟩
            obtain ⟨I8, hI8, hu, h7⟩ := h6.learn
            obtain ⟨b13, o13, vj2, e13, hcj2, hrj2⟩ := slice_elem ((rBytes.slice 1).mono hI8 HROW.out) h7.ext j (by rw [HLL.out]; exact hlt)
            simp only [Option.some.injEq, Addr.mk.injEq] at e13
            obtain ⟨rfl, rfl, -⟩ := e13
            rw [Nat.zero_add] at hcj2
            obtain ⟨lj2, hlj2⟩ : ∃ lj2, lj2 = L[j]'(by rw [HLL.out]; exact hlt) := ⟨_, rfl⟩
            have hljl2 : lj2.length ≤ 1000000 := by rw [hlj2]; exact HLS.out _ (List.getElem_mem _)
            have hljj : lj2 = lj := by rw [hlj2, HLE.out]
            rw [← hlj2, hljj] at hrj2
            have HU := Lib.hid hu
            have HRJ2 := Lib.hid hrj2
            have HI8 := Lib.hid hI8
            clear hS h6 hcj hu hrj2 hI8 hlj2 hljl2 hljj
            go_wp2_with fail
            refine (rscan_spec vj2 lj h7 HRJ2.out HLJ.out).mono ?_
            rintro e w7 ⟨u2, rfl, h8⟩
            obtain ⟨I9, hI9, hu2, h9⟩ := h8.learn
            obtain ⟨got, hgot⟩ : ∃ got, got = (scanJ 0 lj).1 := ⟨_, rfl⟩
            obtain ⟨km, hkm⟩ : ∃ km, km = (scanJ 0 lj).2 := ⟨_, rfl⟩
            have hu1 := HU.out
            rw [← hgot] at hu2 hu1
            rw [← hkm]
            have s1 : Sat w w7 (sep ((rBytes.slice 1).is [u] got) _) := h9.tell ((rBytes.slice 1).mono hI9 hu1)
            have s2 : Sat w w7 (sep ((rBytes.slice 1).is [u2] got) _) := s1.p1.tell hu2
            have s3 : Sat w w7 (sep ((rBytes.slice 1).is [u] got) (sep ((rBytes.slice 1).is [u2] got) (sep (kn I9) emp))) := by simpa only [sep_comm, sep_lcomm, sep_assoc] using s2
            have HS3 := Lib.hid s3
            have HI9 := Lib.hid hI9
            have g6 : ((km : Int) != (km : Int)) = false := by simp
            clear h7 h8 h9 hu2 hu1 s1 s2 s3 hgot hkm hcj2 hI9 HU
            go_wp2_with fail
            refine (sameLists_spec _ _ got HS3.out).mono ?_
            rintro e w8 ⟨rfl, h10⟩
            clear HS3
            go_wp2_with fail
            go_roundw
            case rel => exact ⟨j + 1, by omega, by go_num, h10.kn_mono (Mem.le_trans HI8.out HI9.out)⟩
            case measure => simp [intOf]; omega
          · obtain rfl : j = 3 := by omega
            go_wp2_with fail
            refine (lives30_spec hS).mono ?_
            rintro e w14 ⟨rfl, h17⟩
            clear hS
            go_wp2_with fail
            go_ret
            exact ⟨rfl, h17.below⟩
end Go.Proofs.Ytdaknmcmjnbfeaa
