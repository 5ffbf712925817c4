/- TitleLater, the walk. -/
import Derived.Test.YtfapiopnjllnnaaGreatDoorGTitleLater47
import Derived.Test.YtfapiopnjllnnaaGreatDoorGTitleLaterST2
import Derived.Test.YtfapiopnjllnnaaGreatDoorGTitleLater43
import Derived.Deep.DeepCutAuto
import Derived.Deep.CutBlock
namespace Go.Proofs.YtfapiopnjllnnaaGreatDoor
open Go.RowKit PA
attribute [local go_sem ↓] sizeAct
theorem infoRatio : (Tryz.prog.info? 44).map (fun i => (i.zero, i.size, i.bytes)) = some (some (.agg #[.int .i64 0, .int .i64 0]), 2, 16) := by kernel_rfl
theorem make_R10 (w : World) : (Instr.makeSlice 42 (.int .i64 10) (.int .i64 10)).run Tryz.prog w = .ok (.slice (some ⟨w.heap.size, 0, none⟩) 10 10) (w.alloc (.cells (rrow 10 (fun _ => ⟨0, 0⟩)).toArray 44)) := by
  obtain ⟨i, h1, h2, h3, h4⟩ := info_parts infoRatio
  have hr := run_make (P := Tryz.prog) w 42 44 i (.agg #[.int .i64 0, .int .i64 0]) Tryz.underlying42 h1 h2 .i64 .i64 10 10 (by omega) (Int.le_refl _) (by rw [h4]; omega) (by omega)
  rw [h3] at hr
  have e : madeCells (Value.agg #[.int .i64 0, .int .i64 0]).cells (Int.toNat 10 * 2) = (rrow 10 (fun _ => ⟨0, 0⟩)).toArray := by
    apply Array.ext'
    show (madeCells #[.int .i64 0, .int .i64 0] 20).toList = rrow 10 (fun _ => ⟨0, 0⟩)
    unfold madeCells
    rw [Array.toList_map, Array.toList_range]
    rfl
  rw [e] at hr
  exact hr
def zeroTo (i : Nat) : Nat → Rt := fun k => if k < i then ⟨0, 1⟩ else ⟨0, 0⟩
theorem zeroTo_succ (i : Nat) : setR (zeroTo i) i ⟨0, 1⟩ = zeroTo (i + 1) := by
  funext k
  unfold setR zeroTo
  by_cases e : k = i
  · rw [if_pos e, if_pos (by omega)]
  · rw [if_neg e]
    by_cases h : k < i
    · rw [if_pos h, if_pos (by omega)]
    · rw [if_neg h, if_neg (by omega)]
theorem zeroTo_10 : rrow 10 (zeroTo 10) = rrow 10 (fun _ => ⟨0, 1⟩) := rrow_congr fun i hi => by unfold zeroTo; rw [if_pos hi]
theorem putOwn_succ {own : List (Int × Rt)} {k : Nat} {x : Int} {r : Rt} (h : own[k]? = some (x, r)) (f : Nat → Rt) : putOwn f (own.take (k + 1)) = setR (putOwn f (own.take k)) x.toNat r := by
  obtain ⟨hk, e⟩ := List.getElem?_eq_some_iff.1 h
  unfold putOwn
  rw [List.take_succ_eq_append_getElem hk, List.foldl_append, e]; rfl
/-- The shares of ten parties. -/
def tenS (S : Shs) : Nat → Rt := fun p => shareP S (p : Int)
theorem tenS_set (S : Shs) (p : Nat) (r : Rt) : tenS (setSh S p r) = setR (tenS S) p r := by
  funext k
  unfold tenS shareP setSh setR
  by_cases e : k = p
  · subst e; simp
  · rw [if_neg e, if_neg (by omega)]
theorem la_ok {file fr tt : Int} {S : Shs} (h : ShOk S) {x : Ac} (hx : x.k = 16 → 0 ≤ x.sn) : ShOk (laT file fr tt S x) := by
  unfold laT
  split
  · rename_i e; exact moveP_ok h x (hx e.1)
  · exact h
theorem moveP_bad {S : Shs} {x : Ac} (h : (subR (shareP S x.p) x.sh).2 ≠ 0 ∨ (addR (shareP S x.q) x.sh).2 ≠ 0 ∨ (subR (shareP S x.p) x.sh).1.n < 0) : (moveP S x).1 = S := by
  unfold moveP
  split
  · rfl
  · rename_i h1
    split
    · rfl
    · rename_i h2
      exfalso
      rcases h with h | h | h
      · exact h1 (.inl h)
      · exact h2 h
      · exact h1 (.inr h)
theorem moveP_good {S : Shs} {x : Ac} (h1 : (subR (shareP S x.p) x.sh).2 = 0) (h2 : (addR (shareP S x.q) x.sh).2 = 0) (h3 : ¬ (subR (shareP S x.p) x.sh).1.n < 0) : (moveP S x).1 = setSh (setSh S x.p (subR (shareP S x.p) x.sh).1) x.q (addR (shareP S x.q) x.sh).1 := by
  unfold moveP
  rw [if_neg (by rintro (h | h); exact h h1; exact h3 h), if_neg (by rw [h2]; simp)]
theorem ownsN_get {S : Shs} {i : Nat} {r : Rt} (hs : S (i : Int) = some r) (hr : 0 < r.n) : ∀ n, i < n → (ownsN S n)[(ownsN S i).length]? = some ((i : Int), r)
  | 0, h => by omega
  | n + 1, h => by
    rw [ownsN_succ]
    by_cases e : i = n
    · subst e
      rw [List.getElem?_append_right (Nat.le_refl _), Nat.sub_self]
      simp [ownsP, hs, hr]
    · have ih := ownsN_get hs hr n (by omega)
      rw [List.getElem?_append_left (List.getElem?_eq_some_iff.1 ih).1]
      exact ih
theorem ownsN_nil {S : Shs} {i : Nat} (h : (tenS S i).n = 0) : (ownsN S (i + 1)).length = (ownsN S i).length := by
  rw [ownsN_succ, List.length_append]
  have : ownsP S [(i : Int)] = [] := by
    unfold tenS shareP at h
    cases e : S (i : Int) with
    | none => simp [ownsP, e]
    | some r =>
      rw [e] at h
      have h' : r.n = 0 := h
      simp [ownsP, e, h']
  rw [this]; rfl
theorem ownsN_one {S : Shs} (hok : ShOk S) {i : Nat} (h : ¬ (tenS S i).n = 0) : (ownsN S (i + 1)).length = (ownsN S i).length + 1 ∧ S (i : Int) = some (tenS S i) ∧ 0 < (tenS S i).n := by
  unfold tenS shareP at h ⊢
  cases e : S (i : Int) with
  | none => rw [e] at h; exact absurd rfl h
  | some r =>
    rw [e] at h
    have h1 : ¬ r.n = 0 := h
    have h2 := (hok _ _ e).2
    have h3 : 0 < r.n := by omega
    refine ⟨?_, rfl, h3⟩
    rw [ownsN_succ, List.length_append]
    simp [ownsP, e, h3]
set_option maxRecDepth 100000 in
set_option maxHeartbeats 16000000 in
theorem titleLater_walk (a0 : Option Addr) (len0 cap0 : Nat) (z0 : List Int) (a1 a2 : Int) (w : World) (hW : WholeOK w)
    (w0 : IsArg w a0 len0 cap0 z0) (w1 : (Lit.int .i64 a1).wf = true) (w2 : (Lit.int .i64 a2).wf = true) :
    Calls Tryz.prog 4 #[.slice a0 len0 cap0, .int .i64 a1, .int .i64 a2] w fun e w' => e = .returned (.bool true) ∧ Below w.heap.size w w' := by
  obtain ⟨l, rfl, hr0, h64⟩ := argI w0
  have i1 := i64_of_wf w1
  have i2 := i64_of_wf w2
  have hscr := Lib.hid (script25_spec a0 cap0 l hr0 h64 (Sat.startKn w))
  obtain ⟨x1, hx1⟩ : ∃ x : Nat, aroundI a1 40 = (x : Int) := ⟨(aroundI a1 40).toNat, by have := aroundI_lt a1 40 (by omega); omega⟩
  obtain ⟨x2, hx2⟩ : ∃ x : Nat, aroundI a2 20 = (x : Int) := ⟨(aroundI a2 20).toNat, by have := aroundI_lt a2 20 (by omega); omega⟩
  have hb1 : x1 < 40 := by have := aroundI_lt a1 40 (by omega); omega
  have hb2 : x2 < 20 := by have := aroundI_lt a2 20 (by omega); omega
  have ha1 := fun w' => around_spec a1 40 w' i1.1 i1.2 (by omega) (by omega)
  have ha2 := fun w' => around_spec a2 20 w' i2.1 i2.2 (by omega) (by omega)
  simp only [hx1] at ha1
  simp only [hx2] at ha2
  have HA1 := Lib.hid ha1
  have HA2 := Lib.hid ha2
  obtain ⟨fr, hfr⟩ : ∃ fr : Nat, fr = 100 + x1 := ⟨_, rfl⟩
  obtain ⟨to1, hto⟩ : ∃ t : Nat, t = fr + x2 := ⟨_, rfl⟩
  have e1 : (100 : Int) + (x1 : Int) = (fr : Int) := by omega
  have e2 : (fr : Int) + (x2 : Int) = (to1 : Int) := by omega
  have HD : Hid (100 ≤ fr ∧ fr ≤ to1 ∧ to1 < 160) := Lib.hid (by omega)
  have hb3 : fr < 140 := by omega
  obtain ⟨ll, hll⟩ : ∃ ll, ll = l.length := ⟨_, rfl⟩
  rw [← hll] at hscr ⊢
  clear hr0 h64 w0 w1 w2 i1 i2 hx1 hx2 ha1 ha2 hfr hto hll hW
  go_enter Tryz.func4, Tryz.ntmps4
  go_wp2_with fail
  refine hscr.out.mono ?_
  rintro e w1 ⟨g, n, c', J, rfl, hn, hle, hsw, hc, h1⟩
  have HNN := Lib.hid hn
  have HH1 := Lib.hid (And.intro hle (And.intro hsw (And.intro hc h1)))
  clear hn hle hsw hc h1 hscr
  go_wp2_with fail
  refine (HA1.out _).mono ?_
  rintro e w2 ⟨rfl, rfl⟩
  go_wp2_with fail
  refine (HA2.out _).mono ?_
  rintro e w2 ⟨rfl, rfl⟩
  have hn := HNN.out
  obtain ⟨hle, hsw, hc, h1⟩ := HH1.out
  have hn0 : 0 < n ∧ n < 40 := by rw [hn, scrP_len]; have := scrN_le l; omega
  have hsup : ∀ day : Int, ∀ k, (finT 2 day fil2 (scrP l) k).isSome = true → 0 ≤ k ∧ k < (10001 : Nat) := fun day k hk => by
    rw [scrS_fin] at hk; have := scrS_dom l day k hk; omega
  have HO1 := Lib.hid (owners_ok 2 fr fil2 ⟨g, 0, none⟩ n c' (scrP l) hn.symm hn0.1 hn0.2 (scrP_key l) (scrP_fine l) hsw hc (scrP_filed l) (scrP_err l fr (by have := HD.out; omega) (by omega)) (hsup fr) h1)
  have HC := Lib.hid (And.intro hc (And.intro hsw (And.intro hn.symm hn0)))
  have HSUP := Lib.hid hsup
  clear HA1 HA2 hn hle hsw hc h1 hn0 hsup HNN HH1
  go_wp2_with fail
  refine HO1.out.mono ?_
  rintro e w3 ⟨own1, a3, c3, J3, rfl, ho1, hle3, h3⟩
  rw [scrS_fin] at ho1
  have HO2 := Lib.hid (owners_ok 2 to1 fil2 ⟨g, 0, none⟩ n c' (scrP l) HC.out.2.2.1 HC.out.2.2.2.1 HC.out.2.2.2.2 (scrP_key l) (scrP_fine l) HC.out.2.1 (cellsAt_mono hle3 HC.out.1) (scrP_filed l) (scrP_err l to1 (by have := HD.out; omega) (by have := HD.out; omega)) (HSUP.out to1) h3.p1)
  have HOW1 := Lib.hid ho1
  have HLE3 := Lib.hid hle3
  clear HO1 ho1 hle3 h3
  go_wp2_with fail
  refine HO2.out.mono ?_
  rintro e w5 ⟨own2, a5, c5, J5, rfl, ho2, hle5, h5⟩
  rw [scrS_fin] at ho2
  have HOW2 := Lib.hid ho2
  have HC5 := Lib.hid (cellsAt_mono (Mem.le_trans HLE3.out hle5) HC.out.1)
  have hmk := make_R10 w5
  obtain ⟨G, hG⟩ : ∃ G, G = w5.heap.size := ⟨_, rfl⟩
  have h6 : Sat w (w5.alloc (.cells (rrow 10 (fun _ => ⟨0, 0⟩)).toArray 44)) (sep (rblk 44 G 10 (zeroTo 0)) (sep (osl 46 3 a5 own2.length c5 (ownC own2)) (sep (kn J5) (sep (osl 46 3 a3 own1.length c3 (ownC own1)) emp)))) := by
    have := h5.alloc (.cells (rrow 10 (fun _ => ⟨0, 0⟩)).toArray 44)
    rw [← hG] at this
    exact this
  obtain ⟨w6, hw6⟩ : ∃ w6, w6 = w5.alloc (.cells (rrow 10 (fun _ => ⟨0, 0⟩)).toArray 44) := ⟨_, rfl⟩
  rw [← hG, ← hw6] at hmk
  rw [← hw6] at h6
  have H6 := Lib.hid h6
  obtain ⟨n1, hn1⟩ : ∃ n1, n1 = own1.length := ⟨_, rfl⟩
  obtain ⟨n2, hn2⟩ : ∃ n2, n2 = own2.length := ⟨_, rfl⟩
  rw [← hn1, ← hn2] at H6
  rw [← hn1, ← hn2]
  have HN1 := Lib.hid hn1
  have HN2 := Lib.hid hn2
  clear HO2 ho2 hle5 h5 h6 hG hw6 HLE3 hn1 hn2
  go_upto_block 0 with (fail)
  clear hmk e1 e2
  go_cut [15] from 26 (fun _ wx => Sat w wx (sep (rblk 44 G 10 (fun _ => ⟨0, 1⟩)) (sep (osl 46 3 a5 n2 c5 (ownC own2)) (sep (kn J5) (sep (osl 46 3 a3 n1 c3 (ownC own1)) emp)))))
  case first =>
    as_aux_lemma =>
    /-DEV1-/
    go_wp2
    go_loopw [15] (fun iv wr => ∃ i : Nat, iv = .int .i64 i ∧ i ≤ 10 ∧ Sat w wr (sep (rblk 44 G 10 (zeroTo i)) (sep (osl 46 3 a5 n2 c5 (ownC own2)) (sep (kn J5) (sep (osl 46 3 a3 n1 c3 (ownC own1)) emp))))) (fun iv _ => 11 - (intOf iv).toNat)
    case atStart => exact ⟨0, rfl, by omega, H6.out⟩
    case round =>
      obtain ⟨i, rfl, hi, hS⟩ := hrel
      by_cases hlt : i < 10
      · have hltz : (i : Int) < 10 := by omega
        obtain ⟨c0, c1⟩ := hS.rb_at i hlt
        have u0 : wr.frozen? ⟨G, i * 2, none⟩ = false := Sat.unfrozen hS _
        have u1 : wr.frozen? ⟨G, i * 2 + 1, none⟩ = false := Sat.unfrozen hS _
        have H7 := Lib.hid (hS.rb_set i hlt ⟨0, 1⟩)
        clear hS
        go_wp2
        go_roundw
        case rel =>
          refine ⟨i + 1, by go_num, by omega, ?_⟩
          rw [← zeroTo_succ]
          exact H7.out
        case measure => simp [intOf]; omega
      · obtain rfl : i = 10 := by omega
        have HS := Lib.hid hS
        clear hS
        go_wp2
        go_meet
        case rel =>
          have := HS.out
          unfold rblk at this ⊢
          rw [← zeroTo_10]
          exact this
    /-VED1-/
  case rest =>
    as_aux_lemma =>
    have HCU := Lib.hid hcut
    clear hcut
    go_upto_block 2 with (fail)
    go_cut [16] from 26 (fun _ wx => Sat w wx (sep (rblk 44 G 10 (tenS (scrS l fr))) (sep (osl 46 3 a5 n2 c5 (ownC own2)) (sep (kn J5) (sep (osl 46 3 a3 n1 c3 (ownC own1)) emp)))))
    case first =>
      as_aux_lemma =>
      /-DEV2-/
      go_wp2
      go_loopw [16] (fun kv wr => ∃ k : Nat, kv = .int .i64 k ∧ k ≤ n1 ∧ Sat w wr (sep (rblk 44 G 10 (putOwn (fun _ => ⟨0, 1⟩) (own1.take k))) (sep (osl 46 3 a5 n2 c5 (ownC own2)) (sep (kn J5) (sep (osl 46 3 a3 n1 c3 (ownC own1)) emp))))) (fun kv _ => n1 + 1 - (intOf kv).toNat)
      case atStart => exact ⟨0, rfl, by omega, HCU.out⟩
      case round =>
        obtain ⟨k, rfl, hk, hS⟩ := hrel
        have hn10 : n1 ≤ 10 := by
          have e := ownsN_of (n := 10) (fun k hk => by have := scrS_dom l fr k hk; omega) HOW1.out
          have : (ownsN (scrS l fr) 10).length ≤ 10 := by
            unfold ownsN ownsP
            exact Nat.le_trans (List.length_filterMap_le _ _) (by simp)
          rw [HN1.out, e]; exact this
        by_cases hlt : k < n1
        · have hltz : (k : Int) < (n1 : Int) := by omega
          have hkI : (k : Int) ≤ 10 := by omega
          have hd := hS.drew
          obtain ⟨wd, hwd⟩ : ∃ wd, wd = wr.drew := ⟨_, rfl⟩
          rw [← hwd] at hd
          obtain ⟨g3, x, r, e3, hx, k0, k1, k2⟩ := own_cells HN1.out.symm hd.p3 k hlt
          obtain ⟨g3', x', r', e3', hx', k0', -, -⟩ := own_cells HN1.out.symm hS.p3 k hlt
          rw [e3] at e3' hS hd ⊢
          rw [hx] at hx'
          obtain ⟨rfl, rfl⟩ := Prod.ext_iff.1 (Option.some.inj hx')
          cases e3'
          obtain ⟨hxm, hxe⟩ := List.getElem?_eq_some_iff.1 hx
          have hdom := scrS_dom l fr x (by
            have := ((HOW1.out.mem x r).1 (by rw [← hxe]; exact List.getElem_mem hxm)).1
            rw [this]; rfl)
          obtain ⟨p, rfl⟩ : ∃ p : Nat, x = (p : Int) := ⟨x.toNat, by omega⟩
          have hp1 : (p : Int) ≤ 4 := hdom.2
          have hp10 : p < 10 := by omega
          have hp10z : (p : Int) < 10 := by omega
          have HX := Lib.hid hx
          obtain ⟨rn, rd⟩ := r
          obtain ⟨c0, c1⟩ := hd.rb_at p hp10
          have u0 : wd.frozen? ⟨G, p * 2, none⟩ = false := Sat.unfrozen hd _
          have u1 : wd.frozen? ⟨G, p * 2 + 1, none⟩ = false := Sat.unfrozen hd _
          have hH7 := hd.rb_set p hp10 ⟨rn, rd⟩
          have e7 : setR (putOwn (fun _ => ⟨0, 1⟩) (own1.take k)) p ⟨rn, rd⟩ = putOwn (fun _ => ⟨0, 1⟩) (own1.take (k + 1)) := by
            rw [putOwn_succ hx, Int.toNat_natCast]
          rw [e7] at hH7
          have H7 := Lib.hid hH7
          have HWD := Lib.hid hwd
          have HK := Lib.hid (And.intro k0 (And.intro k1 (And.intro k2 (And.intro c0 (And.intro c1 (And.intro u0 u1))))))
          clear hx hx' hxe hxm hdom hd hS hH7 e7 hwd k0 k1 k2 c0 c1 u0 u1 e3 HCU
          go_upto_region 18 with (fail)
          clear k0'
          obtain ⟨k0, k1, k2, c0, c1, u0, u1⟩ := HK.out
          refine wp_region_canon rfl (fun _ => True) [(0, .p), (1, .p), (2, .p), (3, .p), (4, .p), (5, .t), (6, .p), (7, .p), (8, .p), (9, .p), (10, .t), (11, .p), (12, .e false)] (by kernel_rfl) ?_
          have hS0 : True := trivial
          rw [← HWD.out]
          (repeat ((first | (refine C_p (v := ?_) rfl rfl (fun w' => ?_) ?_; rotate_left; (go_simp; with_reducible rfl)) | (refine C_s (v := ?_) rfl rfl hS0 (fun w' hS => ?_) ?_; rotate_left; ((try dsimp only at hS); go_simp; with_reducible rfl)) | (refine C_t (v := ?_) rfl rfl ?_ ?_; rotate_left; (go_simp; with_reducible rfl)) | (refine C_po rfl rfl ?_) | (refine C_so rfl rfl hS0 ?_) | (refine C_to rfl rfl ?_)); simp only [Act.put, List.setIfInBounds_toArray, List.set_cons_zero, List.set_cons_succ]))
          (refine C_e rfl rfl (fun K hK => ?_); go_simp)
          (refine hK _ _ (fun h => by cases h) ?_; clear hK K; (try simp only [Act.put, List.setIfInBounds_toArray, List.set_cons_zero, List.set_cons_succ]))
          refine C_nil ?_
          go_wp2
          go_roundw
          case rel => exact ⟨k + 1, by go_num, by omega, H7.out⟩
          case measure => simp [intOf]; omega
        · obtain rfl : k = n1 := by omega
          have HS := Lib.hid hS
          clear hS hn10
          go_wp2
          go_meet
          case rel =>
            have h9 := HS.out
            rw [List.take_of_length_le (by rw [HN1.out]; exact Nat.le_refl _)] at h9
            have e : putOwn (fun _ => ⟨0, 1⟩) own1 = tenS (scrS l fr) := by
              funext j
              exact putOwn_S (scrS_ok l fr) HOW1.out (fun k hk => by have := scrS_dom l fr k hk; omega) j
            rw [e] at h9
            exact h9
      /-VED2-/
    case rest =>
      as_aux_lemma =>
      clear HCU
      obtain ⟨ys, hys⟩ : ∃ ys, ys = sortK (scrP l) := ⟨_, rfl⟩
      have hyl : ys.length = n := by rw [hys, sortK_len]; exact HC.out.2.2.1
      have hsrt := sortK_spec ⟨g, 0, none⟩ n c' (scrP l) HC.out.2.2.1 (scrP_key l) HC.out.2.2.2.1 HC.out.2.2.2.2 HC.out.2.1 HC5.out (show Sat w wc (sep (kn J5) (sep (rblk 44 G 10 (tenS (scrS l fr))) (sep (osl 46 3 a5 n2 c5 (ownC own2)) (sep (osl 46 3 a3 n1 c3 (ownC own1)) emp)))) from Sat.p2 hcut)
      rw [← hys] at hsrt
      have HSRT := Lib.hid hsrt
      have HY : Hid (ys.length = n ∧ (∀ x ∈ ys, x.k = 16 → okR x.sh = true ∧ 0 < x.sn ∧ (1 ≤ x.p ∧ x.p ≤ 4) ∧ (1 ≤ x.q ∧ x.q ≤ 4) ∧ x.p ≠ x.q) ∧ ys.foldl (laT 2 fr to1) (scrS l fr) = scrS l to1) :=
        Lib.hid ⟨hyl, fun x hx hk => scrP_tr ((sortK_perm _).subset (by rw [hys] at hx; exact hx)) hk, by rw [hys]; exact scrS_later l (by have := HD.out; omega) (by have := HD.out; omega)⟩
      have HN40 := Lib.hid HC.out.2.2.2.2
      have hn40 : n < 40 := HN40.out
      clear hys hyl hsrt hcut HC HC5
      go_wp2_with fail
      refine HSRT.out.mono ?_
      rintro e w8 ⟨g8, c8, J8, rfl, hle8, hc8a, hc8b, hc8, h8⟩
      have HC8 := Lib.hid hc8
      have HH8 : Hid (Sat w w8 (sep (kn J8) (sep (rblk 44 G 10 (tenS (scrS l fr))) (sep (osl 46 3 a5 n2 c5 (ownC own2)) emp)))) := Lib.hid (by
        have := h8.p3.forget_osl
        exact this)
      clear hle8 hc8a hc8b hc8 h8 HSRT
      go_upto_block 4 with (fail)
      go_cut [18] from 26 (fun _ wx => Sat w wx (sep (kn J8) (sep (rblk 44 G 10 (tenS (scrS l to1))) (sep (osl 46 3 a5 n2 c5 (ownC own2)) emp))))
      case first =>
        as_aux_lemma =>
        /-DEV3-/
        go_wp2
        go_loopw [18] (fun kv wr => ∃ (k : Nat) (S : Shs), kv = .int .i64 k ∧ k ≤ n ∧ Hid (ShOk S ∧ (ys.drop k).foldl (laT 2 fr to1) S = scrS l to1) ∧ Sat w wr (sep (kn J8) (sep (rblk 44 G 10 (tenS S)) (sep (osl 46 3 a5 n2 c5 (ownC own2)) emp)))) (fun kv _ => n + 1 - (intOf kv).toNat)
        case atStart => exact ⟨0, scrS l fr, rfl, by omega, Lib.hid ⟨scrS_ok l fr, HY.out.2.2⟩, HH8.out⟩
        case round =>
          obtain ⟨k, S, rfl, hk, HK, hS⟩ := hrel
          by_cases hlt : k < n
          · have hltz : (k : Int) < (n : Int) := by omega
            have hkl : k < ys.length := by rw [HY.out.1]; exact hlt
            have hkI : (k : Int) < 40 := by omega
            obtain ⟨x, hx⟩ : ∃ x, x = ys[k] := ⟨_, rfl⟩
            have l1 := rsl_ld HC8.out hS.ext k hkl
            rw [← hx] at l1
            have hdrop : ys.drop k = x :: ys.drop (k + 1) := by rw [hx]; exact List.drop_eq_getElem_cons hkl
            have hmem : x ∈ ys := by rw [hx]; exact List.getElem_mem hkl
            have hnext : (ys.drop (k + 1)).foldl (laT 2 fr to1) (laT 2 fr to1 S x) = scrS l to1 := by
              have := HK.out.2; rw [hdrop, List.foldl_cons] at this; exact this
            have hok' := la_ok (file := 2) (fr := fr) (tt := to1) HK.out.1 (x := x) (fun hk => by have := (HY.out.2.1 x hmem hk).2.1; omega)
            have HNX := Lib.hid (And.intro hok' hnext)
            have HXT := Lib.hid (HY.out.2.1 x hmem)
            have HSOK := Lib.hid HK.out.1
            obtain ⟨w9, s1, h9a⟩ := act_st (cur := #[.int .i64 0, .int .i64 0, .int .i64 0, .int .i64 0, .int .i64 0, .int .i64 0, .int .i64 0, .int .i64 0, .int .i64 0, .int .i64 0, .int .i64 0, .slice none 0 0, .slice none 0 0, .slice none 0 0, .slice none 0 0, .int .i64 0, .int .i64 0, .slice none 0 0, .slice none 0 0]) rfl (hS.alloc (.cells #[.int .i64 0, .int .i64 0, .int .i64 0, .int .i64 0, .int .i64 0, .int .i64 0, .int .i64 0, .int .i64 0, .int .i64 0, .int .i64 0, .int .i64 0, .slice none 0 0, .slice none 0 0, .slice none 0 0, .slice none 0 0, .int .i64 0, .int .i64 0, .slice none 0 0, .slice none 0 0] 57)) x
            obtain ⟨J9, hle9, hJ9, h9⟩ := (show Sat w w9 (sep (imm wr.heap.size (.cells x.cells.toArray 57 (0, 0))) (sep (kn J8) (sep (rblk 44 G 10 (tenS S)) (sep (osl 46 3 a5 n2 c5 (ownC own2)) emp)))) from h9a.settle).learn
            obtain ⟨B, hB⟩ : ∃ B, B = wr.heap.size := ⟨_, rfl⟩
            rw [← hB] at hJ9
            have HX9 : Hid (∀ w', Ext J9 w' → w'.cell? ⟨B, 0, none⟩ = some (.int .i64 x.k) ∧ w'.cell? ⟨B, 1, none⟩ = some (.int .i64 x.d) ∧ w'.cell? ⟨B, 3, none⟩ = some (.int .i64 x.f) ∧ w'.cell? ⟨B, 5, none⟩ = some (.int .i64 x.p) ∧ w'.cell? ⟨B, 6, none⟩ = some (.int .i64 x.q) ∧ w'.cell? ⟨B, 9, none⟩ = some (.int .i64 x.sn) ∧ w'.cell? ⟨B, 10, none⟩ = some (.int .i64 x.sd)) :=
              Lib.hid fun w' he => ⟨act_cell hJ9 he 0, act_cell hJ9 he 1, act_cell hJ9 he 3, act_cell hJ9 he 5, act_cell hJ9 he 6, act_cell hJ9 he 9, act_cell hJ9 he 10⟩
            have HB := Lib.hid hB
            have HLE9 := Lib.hid hle9
            have H9 := Lib.hid h9
            clear hx hdrop hmem hnext hok' h9a hle9 hJ9 hB h9 hS HK hkl HH8
            go_upto_region 24 with (fail)
            rw [← HB.out]
            clear l1 s1
            obtain ⟨b0, b1, b3, -⟩ := HX9.out w9 H9.out.ext
            by_cases hc : x.k = 16 ∧ x.f = 2 ∧ (fr : Int) < x.d ∧ x.d ≤ (to1 : Int)
            · as_aux_lemma =>
              /-DEV4-/
              obtain ⟨h16, h2, hd1, hd2⟩ := hc
              have hd1' : ¬ x.d ≤ (fr : Int) := by omega
              have hd2' : ¬ (to1 : Int) < x.d := by omega
              have hla : laT 2 fr to1 S x = (moveP S x).1 := by unfold laT; rw [if_pos ⟨h16, h2, hd1, hd2⟩]
              have HNY := HNX.out
              rw [hla] at HNY
              obtain ⟨hokx, hsn, hp, hq, hpq⟩ := HXT.out h16
              obtain ⟨p, hp'⟩ : ∃ p : Nat, x.p = (p : Int) := ⟨x.p.toNat, by omega⟩
              obtain ⟨q, hq'⟩ : ∃ q : Nat, x.q = (q : Int) := ⟨x.q.toNat, by omega⟩
              have hp10 : p < 10 := by omega
              have hq10 : q < 10 := by omega
              have hp10z : (p : Int) < 10 := by omega
              have hq10z : (q : Int) < 10 := by omega
              have hpq' : p ≠ q := by omega
              rw [h16] at b0
              rw [h2] at b3
              obtain ⟨lo, hlo⟩ : ∃ lo, lo = subR (shareP S x.p) x.sh := ⟨_, rfl⟩
              obtain ⟨mo, hmo⟩ : ∃ mo, mo = addR (shareP S x.q) x.sh := ⟨_, rfl⟩
              have hbad : (lo.2 ≠ 0 ∨ mo.2 ≠ 0 ∨ lo.1.n < 0) → (moveP S x).1 = S := fun h => moveP_bad (by rw [← hlo, ← hmo]; exact h)
              have hgood : lo.2 = 0 → mo.2 = 0 → ¬ lo.1.n < 0 → tenS (moveP S x).1 = setR (setR (tenS S) p lo.1) q mo.1 := fun h1 h2 h3 => by
                rw [moveP_good (by rw [← hlo]; exact h1) (by rw [← hmo]; exact h2) (by rw [← hlo]; exact h3), ← hlo, ← hmo, hp', hq', tenS_set, tenS_set]
              have HBAD := Lib.hid hbad
              have HGOOD := Lib.hid hgood
              have ha := RtB.of (okR_spec hokx).1
              have hna := RtB.of (okR_spec (okR_neg hokx)).1
              have HSUB : Hid (∀ w0 A0, Sat w w0 (sep emp A0) → Calls Tryz.prog 23 #[.agg #[.int .i64 (tenS S p).n, .int .i64 (tenS S p).d], .agg #[.int .i64 x.sn, .int .i64 x.sd]] w0 fun e w' => ∃ v, e = .returned v ∧ Sat w w' (sep (ex fun _ : Unit => sep (fact (v = rtRes lo)) emp) A0)) :=
                Lib.hid fun w0 A0 h0 => (sub_spec (shareP S p) x.sh (RtB.of (okR_spec (HSOK.out.share _).1).1) ha hna h0).mono (by
                  rintro e w' ⟨rfl, h2⟩
                  refine ⟨_, rfl, ?_⟩
                  rw [ex_sep, Sat.ex]
                  exact ⟨(), by rw [sep_assoc]; exact Sat.fact.2 ⟨by rw [hlo, hp'], h2⟩⟩)
              have HADD : Hid (∀ w0 A0, Sat w w0 (sep emp A0) → Calls Tryz.prog 24 #[.agg #[.int .i64 (tenS S q).n, .int .i64 (tenS S q).d], .agg #[.int .i64 x.sn, .int .i64 x.sd]] w0 fun e w' => ∃ v, e = .returned v ∧ Sat w w' (sep (ex fun _ : Unit => sep (fact (v = rtRes mo)) emp) A0)) :=
                Lib.hid fun w0 A0 h0 => (add_spec (shareP S q) x.sh (RtB.of (okR_spec (HSOK.out.share _).1).1) ha h0).mono (by
                  rintro e w' ⟨rfl, h2⟩
                  refine ⟨_, rfl, ?_⟩
                  rw [ex_sep, Sat.ex]
                  exact ⟨(), by rw [sep_assoc]; exact Sat.fact.2 ⟨by rw [hmo, hq'], h2⟩⟩)
              obtain ⟨FT, hFT⟩ : ∃ FT, FT = tenS S := ⟨_, rfl⟩
              rw [← hFT] at HSUB HADD
              have hH9 := H9.out
              rw [← hFT] at hH9
              have HXP : Hid (∀ w', Ext J9 w' → w'.cell? ⟨B, 5, none⟩ = some (.int .i64 p) ∧ w'.cell? ⟨B, 6, none⟩ = some (.int .i64 q) ∧ w'.cell? ⟨B, 9, none⟩ = some (.int .i64 x.sn) ∧ w'.cell? ⟨B, 10, none⟩ = some (.int .i64 x.sd)) := Lib.hid fun w' he => by
                have := (HX9.out w' he).2.2.2
                rw [hp', hq'] at this
                exact this
              obtain ⟨FA, hFA⟩ : ∃ FA, FA = sep (kn J9) (sep (rblk 44 G 10 FT) (sep (osl 46 3 a5 n2 c5 (ownC own2)) emp)) := ⟨_, rfl⟩
              have HSA : Hid (∀ (w' : World) (X : Assn), Sat w w' (sep X FA) → (w'.cell? ⟨B, 5, none⟩ = some (.int .i64 p) ∧ w'.cell? ⟨B, 6, none⟩ = some (.int .i64 q) ∧ w'.cell? ⟨B, 9, none⟩ = some (.int .i64 x.sn) ∧ w'.cell? ⟨B, 10, none⟩ = some (.int .i64 x.sd)) ∧ (w'.cell? ⟨G, p * 2, none⟩ = some (.int .i64 (FT p).n) ∧ w'.cell? ⟨G, p * 2 + 1, none⟩ = some (.int .i64 (FT p).d)) ∧ w'.cell? ⟨G, q * 2, none⟩ = some (.int .i64 (FT q).n) ∧ w'.cell? ⟨G, q * 2 + 1, none⟩ = some (.int .i64 (FT q).d)) := Lib.hid fun w' X hX => by
                rw [hFA] at hX
                exact ⟨HXP.out w' hX.p1.ext, hX.p2.rb_at p hp10, hX.p2.rb_at q hq10⟩
              rw [← hFA] at hH9
              have HNZ := Lib.hid HNY
              have HFA := Lib.hid hFA
              have HFT := Lib.hid hFT
              have H10 := Lib.hid hH9
              have HPQ := Lib.hid (And.intro hp10 (And.intro hq10 hpq'))
              obtain ⟨⟨ln, ld⟩, le⟩ := lo
              obtain ⟨⟨mn, md⟩, me⟩ := mo
              clear h16 h2 hd1 hd2 hla HNY hokx hsn hp hq hpq hp' hq' hpq' hlo hmo hbad hgood ha hna hFT hH9 hFA H9 HX9 HNX HXT hp10 hq10
              go_upto_region 25 with (fail)
              clear b0 b1 b3 hd1' hd2'
              have hd := H10.out.drew
              obtain ⟨wd, hwd⟩ : ∃ wd, wd = w9.drew := ⟨_, rfl⟩
              rw [← hwd] at hd
              have HWD := Lib.hid hwd
              have hd2 : Sat w wd (sep emp FA) := by rw [emp_sep]; exact hd
              have hS0 := HSA.out wd emp hd2
              have HD2 := Lib.hid hd2
              clear hwd hd hd2 H10
              refine wp_region_itemsJ rfl (fun w' => (w'.cell? ⟨B, 5, none⟩ = some (.int .i64 p) ∧ w'.cell? ⟨B, 6, none⟩ = some (.int .i64 q) ∧ w'.cell? ⟨B, 9, none⟩ = some (.int .i64 x.sn) ∧ w'.cell? ⟨B, 10, none⟩ = some (.int .i64 x.sd)) ∧ (w'.cell? ⟨G, p * 2, none⟩ = some (.int .i64 (FT p).n) ∧ w'.cell? ⟨G, p * 2 + 1, none⟩ = some (.int .i64 (FT p).d)) ∧ w'.cell? ⟨G, q * 2, none⟩ = some (.int .i64 (FT q).n) ∧ w'.cell? ⟨G, q * 2 + 1, none⟩ = some (.int .i64 (FT q).d)) [.one 0 .p, .one 1 .p, .one 2 .s, .one 3 .p, .one 4 .s, .one 5 .p, .one 6 .s, .grp true [(7, [8, 9, 10]), (11, [])], .one 12 (.e false), .one 13 .p] (by kernel_rfl) ?_
              rw [← HWD.out]
              (repeat ((first | (refine J_p (v := ?_) rfl rfl (fun w' => ?_) ?_; rotate_left; (go_simp; with_reducible rfl)) | (refine J_s (v := ?_) rfl rfl hS0 (fun w' hS => ?_) ?_; rotate_left; ((try dsimp only at hS); go_simp; with_reducible rfl)) | (refine J_t (v := ?_) rfl rfl ?_ ?_; rotate_left; (go_simp; with_reducible rfl)) | (refine J_po rfl rfl ?_) | (refine J_so rfl rfl hS0 ?_) | (refine J_to rfl rfl ?_)); simp only [Act.put, List.setIfInBounds_toArray, List.set_cons_zero, List.set_cons_succ]))
              refine wpJ_threads (W := w) (A := FA) [⟨[(7, [8, 9, 10])], tailA emp (fun (_ : Unit) v => v = rtRes (⟨ln, ld⟩, le)) (fun _ => emp) (fun _ => rtU (⟨ln, ld⟩, le))⟩, ⟨[(11, [])], tailA emp ptrIs (fun g => blk g (.cells #[.int .i64 0, .int .i64 0] 44 (0, 0))) (fun _ => [])⟩]
                (fun _ w' X hX => HSA.out w' X hX) (by kernel_rfl) ?_ ?_ ?_
              · intro t ht
                simp only [List.mem_cons, List.not_mem_nil, or_false] at ht
                rcases ht with rfl | rfl
                · refine goodG_tail rfl (by intro cs b h; cases h) (doesCall rfl 23 #[.agg #[.int .i64 (FT p).n, .int .i64 (FT p).d], .agg #[.int .i64 x.sn, .int .i64 x.sd]] (fun w' => ?_) HSUB.out) (by kernel_rfl) ?_
                  · (go_simp; try rfl)
                  · rintro y v rfl
                    refine ⟨⟨_, rfl, fun w' => ?_⟩, ⟨_, rfl, fun w' => ?_⟩, ⟨_, rfl, fun w' => ?_⟩, trivial⟩
                    all_goals (unfold rtRes; go_simp; try rfl)
                · refine goodG_tail rfl (by intro cs b h; cases h) (doesAlloc rfl (fun w' => ?_)) rfl ?_
                  · (go_simp; try rfl)
                  · intro _ _ _; trivial
              · show Sat w wd (sep emp (sep emp FA))
                rw [emp_sep]
                exact HD2.out
              · intro dn1 h1 dn2 h2 w11 h11
                obtain ⟨v8, y8, rfl, h8v, h12⟩ := tailA_done h1 (fun _ => rfl) (show Sat w w11 (sep (tailA emp (fun (_ : Unit) v => v = rtRes (⟨ln, ld⟩, le)) (fun _ => emp) (fun _ => rtU (⟨ln, ld⟩, le)) (dn1.map (·.2))) (sep (tailA emp ptrIs (fun g => blk g (.cells #[.int .i64 0, .int .i64 0] 44 (0, 0))) (fun _ => []) (dn2.map (·.2))) FA)) from h11.p1)
                obtain ⟨v11, g2, rfl, hg2, h13⟩ := tailA_done h2 (fun _ => rfl) (show Sat w w11 (sep (tailA emp ptrIs (fun g => blk g (.cells #[.int .i64 0, .int .i64 0] 44 (0, 0))) (fun _ => []) (dn2.map (·.2))) (sep emp FA)) from h12.p1)
                unfold ptrIs at hg2
                subst hg2
                subst h8v
                rw [emp_sep] at h13
                change wpJ _ _ _ _ _ _ (((((Act.put _ (some 134) (rtRes (⟨ln, ld⟩, le))).put (some 126) (rtRes (⟨ln, ld⟩, le))).put (some 135) (.agg #[.int .i64 ln, .int .i64 ld])).put (some 136) (.int .i64 le)).put (some 20) (.pointer (some ⟨g2, 0, none⟩))) _
                simp only [Act.put, List.setIfInBounds_toArray, List.set_cons_zero, List.set_cons_succ]
                simp only [rtRes]
                obtain ⟨k0, k1, k2, k3⟩ := rt2 h13
                have h14 := rt2_set h13 (.int .i64 ln) (.int .i64 ld)
                obtain ⟨w12, hw12⟩ : ∃ w12, w12 = (w11.setCell ⟨g2, 0, none⟩ (.int .i64 ln)).setCell ⟨g2, 1, none⟩ (.int .i64 ld) := ⟨_, rfl⟩
                rw [← hw12] at h14
                have HW12 := Lib.hid hw12
                have H14 := Lib.hid h14
                clear h1 h2 h11 h12 h13 h14 hw12 hS0 HD2 HWD HSUB
                (repeat ((first | (refine J_p (v := ?_) rfl rfl (fun w' => ?_) ?_; rotate_left; (go_simp; with_reducible rfl)) | (refine J_s (v := ?_) rfl rfl hS0 (fun w' hS => ?_) ?_; rotate_left; ((try dsimp only at hS); go_simp; with_reducible rfl)) | (refine J_t (v := ?_) rfl rfl ?_ ?_; rotate_left; (go_simp; with_reducible rfl)) | (refine J_po rfl rfl ?_) | (refine J_so rfl rfl hS0 ?_) | (refine J_to rfl rfl ?_)); simp only [Act.put, List.setIfInBounds_toArray, List.set_cons_zero, List.set_cons_succ]))
                (refine J_e rfl rfl (fun K hK => ?_); go_simp)
                rw [← HW12.out]
                (refine hK _ _ (fun h => by cases h) ?_; clear hK K; (try simp only [Act.put, List.setIfInBounds_toArray, List.set_cons_zero, List.set_cons_succ]))
                (repeat ((first | (refine J_p (v := ?_) rfl rfl (fun w' => ?_) ?_; rotate_left; (go_simp; with_reducible rfl)) | (refine J_s (v := ?_) rfl rfl hS0 (fun w' hS => ?_) ?_; rotate_left; ((try dsimp only at hS); go_simp; with_reducible rfl)) | (refine J_t (v := ?_) rfl rfl ?_ ?_; rotate_left; (go_simp; with_reducible rfl)) | (refine J_po rfl rfl ?_) | (refine J_so rfl rfl hS0 ?_) | (refine J_to rfl rfl ?_)); simp only [Act.put, List.setIfInBounds_toArray, List.set_cons_zero, List.set_cons_succ]))
                refine J_nil ?_
                clear k0 k1 k2 k3 HW12
                go_upto_region 26 with (fail)
                have hd := H14.out.drew
                obtain ⟨wd2, hwd2⟩ : ∃ wd2, wd2 = w12.drew := ⟨_, rfl⟩
                rw [← hwd2] at hd
                have HWD2 := Lib.hid hwd2
                have hS0 := HSA.out wd2 _ hd
                have HD3 := Lib.hid hd
                clear hwd2 hd H14
                refine wp_region_itemsJ rfl (fun w' => (w'.cell? ⟨B, 5, none⟩ = some (.int .i64 p) ∧ w'.cell? ⟨B, 6, none⟩ = some (.int .i64 q) ∧ w'.cell? ⟨B, 9, none⟩ = some (.int .i64 x.sn) ∧ w'.cell? ⟨B, 10, none⟩ = some (.int .i64 x.sd)) ∧ (w'.cell? ⟨G, p * 2, none⟩ = some (.int .i64 (FT p).n) ∧ w'.cell? ⟨G, p * 2 + 1, none⟩ = some (.int .i64 (FT p).d)) ∧ w'.cell? ⟨G, q * 2, none⟩ = some (.int .i64 (FT q).n) ∧ w'.cell? ⟨G, q * 2 + 1, none⟩ = some (.int .i64 (FT q).d)) [.one 0 .p, .one 1 .p, .one 2 .s, .one 3 .p, .one 4 .s, .one 5 .p, .one 6 .s, .grp true [(7, [8, 9, 10]), (11, [])], .one 12 (.e false), .one 13 .p] (by kernel_rfl) ?_
                rw [← HWD2.out]
                (repeat ((first | (refine J_p (v := ?_) rfl rfl (fun w' => ?_) ?_; rotate_left; (go_simp; with_reducible rfl)) | (refine J_s (v := ?_) rfl rfl hS0 (fun w' hS => ?_) ?_; rotate_left; ((try dsimp only at hS); go_simp; with_reducible rfl)) | (refine J_t (v := ?_) rfl rfl ?_ ?_; rotate_left; (go_simp; with_reducible rfl)) | (refine J_po rfl rfl ?_) | (refine J_so rfl rfl hS0 ?_) | (refine J_to rfl rfl ?_)); simp only [Act.put, List.setIfInBounds_toArray, List.set_cons_zero, List.set_cons_succ]))
                refine wpJ_threads (W := w) (A := sep (blk g2 (.cells #[.int .i64 ln, .int .i64 ld] 44 (0, 0))) FA) [⟨[(7, [8, 9, 10])], tailA emp (fun (_ : Unit) v => v = rtRes (⟨mn, md⟩, me)) (fun _ => emp) (fun _ => rtU (⟨mn, md⟩, me))⟩, ⟨[(11, [])], tailA emp ptrIs (fun g => blk g (.cells #[.int .i64 0, .int .i64 0] 44 (0, 0))) (fun _ => [])⟩]
                  (fun _ w' X hX => HSA.out w' (sep X (blk g2 (.cells #[.int .i64 ln, .int .i64 ld] 44 (0, 0)))) (by rw [sep_assoc]; exact hX)) (by kernel_rfl) ?_ ?_ ?_
                · intro t ht
                  simp only [List.mem_cons, List.not_mem_nil, or_false] at ht
                  rcases ht with rfl | rfl
                  · refine goodG_tail rfl (by intro cs b h; cases h) (doesCall rfl 24 #[.agg #[.int .i64 (FT q).n, .int .i64 (FT q).d], .agg #[.int .i64 x.sn, .int .i64 x.sd]] (fun w' => ?_) HADD.out) (by kernel_rfl) ?_
                    · (go_simp; try rfl)
                    · rintro y v rfl
                      refine ⟨⟨_, rfl, fun w' => ?_⟩, ⟨_, rfl, fun w' => ?_⟩, ⟨_, rfl, fun w' => ?_⟩, trivial⟩
                      all_goals (unfold rtRes; go_simp; try rfl)
                  · refine goodG_tail rfl (by intro cs b h; cases h) (doesAlloc rfl (fun w' => ?_)) rfl ?_
                    · (go_simp; try rfl)
                    · intro _ _ _; trivial
                · show Sat w wd2 (sep emp (sep emp (sep (blk g2 (.cells #[.int .i64 ln, .int .i64 ld] 44 (0, 0))) FA)))
                  rw [emp_sep, emp_sep]
                  exact HD3.out
                · intro dn1 h1 dn2 h2 w11 h11
                  obtain ⟨v8, y8, rfl, h8v, h12⟩ := tailA_done h1 (fun _ => rfl) (show Sat w w11 (sep (tailA emp (fun (_ : Unit) v => v = rtRes (⟨mn, md⟩, me)) (fun _ => emp) (fun _ => rtU (⟨mn, md⟩, me)) (dn1.map (·.2))) (sep (tailA emp ptrIs (fun g => blk g (.cells #[.int .i64 0, .int .i64 0] 44 (0, 0))) (fun _ => []) (dn2.map (·.2))) (sep (blk g2 (.cells #[.int .i64 ln, .int .i64 ld] 44 (0, 0))) FA))) from h11.p1)
                  obtain ⟨v11, g3, rfl, hg3, h13⟩ := tailA_done h2 (fun _ => rfl) (show Sat w w11 (sep (tailA emp ptrIs (fun g => blk g (.cells #[.int .i64 0, .int .i64 0] 44 (0, 0))) (fun _ => []) (dn2.map (·.2))) (sep emp (sep (blk g2 (.cells #[.int .i64 ln, .int .i64 ld] 44 (0, 0))) FA))) from h12.p1)
                  unfold ptrIs at hg3
                  subst hg3
                  subst h8v
                  rw [emp_sep] at h13
                  change wpJ _ _ _ _ _ _ (((((Act.put _ (some 145) (rtRes (⟨mn, md⟩, me))).put (some 137) (rtRes (⟨mn, md⟩, me))).put (some 146) (.agg #[.int .i64 mn, .int .i64 md])).put (some 147) (.int .i64 me)).put (some 22) (.pointer (some ⟨g3, 0, none⟩))) _
                  simp only [Act.put, List.setIfInBounds_toArray, List.set_cons_zero, List.set_cons_succ]
                  simp only [rtRes]
                  obtain ⟨k0, k1, k2, k3⟩ := rt2 h13
                  have h14 := rt2_set h13 (.int .i64 mn) (.int .i64 md)
                  obtain ⟨w13, hw13⟩ : ∃ w13, w13 = (w11.setCell ⟨g3, 0, none⟩ (.int .i64 mn)).setCell ⟨g3, 1, none⟩ (.int .i64 md) := ⟨_, rfl⟩
                  rw [← hw13] at h14
                  have HW13 := Lib.hid hw13
                  have H14 := Lib.hid h14
                  clear h1 h2 h11 h12 h13 h14 hw13 hS0 HD3 HWD2 HADD
                  (repeat ((first | (refine J_p (v := ?_) rfl rfl (fun w' => ?_) ?_; rotate_left; (go_simp; with_reducible rfl)) | (refine J_s (v := ?_) rfl rfl hS0 (fun w' hS => ?_) ?_; rotate_left; ((try dsimp only at hS); go_simp; with_reducible rfl)) | (refine J_t (v := ?_) rfl rfl ?_ ?_; rotate_left; (go_simp; with_reducible rfl)) | (refine J_po rfl rfl ?_) | (refine J_so rfl rfl hS0 ?_) | (refine J_to rfl rfl ?_)); simp only [Act.put, List.setIfInBounds_toArray, List.set_cons_zero, List.set_cons_succ]))
                  (refine J_e rfl rfl (fun K hK => ?_); go_simp)
                  rw [← HW13.out]
                  (refine hK _ _ (fun h => by cases h) ?_; clear hK K; (try simp only [Act.put, List.setIfInBounds_toArray, List.set_cons_zero, List.set_cons_succ]))
                  (repeat ((first | (refine J_p (v := ?_) rfl rfl (fun w' => ?_) ?_; rotate_left; (go_simp; with_reducible rfl)) | (refine J_s (v := ?_) rfl rfl hS0 (fun w' hS => ?_) ?_; rotate_left; ((try dsimp only at hS); go_simp; with_reducible rfl)) | (refine J_t (v := ?_) rfl rfl ?_ ?_; rotate_left; (go_simp; with_reducible rfl)) | (refine J_po rfl rfl ?_) | (refine J_so rfl rfl hS0 ?_) | (refine J_to rfl rfl ?_)); simp only [Act.put, List.setIfInBounds_toArray, List.set_cons_zero, List.set_cons_succ]))
                  refine J_nil ?_
                  clear k0 k1 k2 k3 HW13
                  obtain ⟨j0, j1, -, -⟩ := rt2 H14.out.p1
                  by_cases c1 : le = 0
                  · by_cases c2 : me = 0
                    · by_cases c3 : ln < 0
                      · have HZ := HNZ.out
                        rw [HBAD.out (.inr (.inr c3))] at HZ
                        have HZZ := Lib.hid HZ
                        subst c1
                        subst c2
                        clear HZ j1
                        go_wp2
                        go_roundw
                        case rel =>
                          refine ⟨k + 1, S, by go_num, by omega, HZZ, ?_⟩
                          have h15 := H14.out.drop.drop
                          rw [HFA.out, HFT.out] at h15
                          exact h15.kn_mono HLE9.out
                        case measure => simp [intOf]; omega
                      · have e9 := HGOOD.out c1 c2 c3
                        subst c1
                        subst c2
                        have HE9 := Lib.hid e9
                        have h15 : Sat w w13 (sep (rblk 44 G 10 FT) (sep (blk g3 (.cells #[.int .i64 mn, .int .i64 md] 44 (0, 0))) (sep (blk g2 (.cells #[.int .i64 ln, .int .i64 ld] 44 (0, 0))) (sep (kn J9) (sep (osl 46 3 a5 n2 c5 (ownC own2)) emp))))) := by
                          have := H14.out
                          rw [HFA.out] at this
                          simpa only [sep_comm, sep_lcomm, sep_assoc] using this
                        have hz3 : 0 ≤ ln := by omega
                        have b5 := (HSA.out w13 (sep (blk g3 (.cells #[.int .i64 mn, .int .i64 md] 44 (0, 0))) (blk g2 (.cells #[.int .i64 ln, .int .i64 ld] 44 (0, 0)))) (by rw [sep_assoc]; exact H14.out)).1.1
                        have b5g := (HSA.out w13 (sep (blk g3 (.cells #[.int .i64 mn, .int .i64 md] 44 (0, 0))) (blk g2 (.cells #[.int .i64 ln, .int .i64 ld] 44 (0, 0)))) (by rw [sep_assoc]; exact H14.out)).2.1
                        obtain ⟨g0, g1⟩ := b5g
                        have u0 : w13.frozen? ⟨G, p * 2, none⟩ = false := Sat.unfrozen h15 _
                        have u1 : w13.frozen? ⟨G, p * 2 + 1, none⟩ = false := Sat.unfrozen h15 _
                        have h16 := h15.rb_set p HPQ.out.1 ⟨ln, ld⟩
                        obtain ⟨w14, hw14⟩ : ∃ w14, w14 = (w13.setCell ⟨G, p * 2, none⟩ (.int .i64 ln)).setCell ⟨G, p * 2 + 1, none⟩ (.int .i64 ld) := ⟨_, rfl⟩
                        rw [← hw14] at h16
                        have HW14 := Lib.hid hw14
                        have H16 := Lib.hid h16
                        have HB6 : Hid (w14.cell? ⟨B, 6, none⟩ = some (.int .i64 q)) := Lib.hid (HXP.out w14 h16.p3.ext).2.1
                        clear hw14 h15 h16 e9 H14 HGOOD HBAD
                        go_upto_region 29 with (fail)
                        rw [← HW14.out]
                        clear u0 u1 g0 g1 b5 j0 j1
                        have b6 := HB6.out
                        have u0 : w14.frozen? ⟨G, q * 2, none⟩ = false := Sat.unfrozen H16.out _
                        have u1 : w14.frozen? ⟨G, q * 2 + 1, none⟩ = false := Sat.unfrozen H16.out _
                        obtain ⟨g0, g1⟩ := H16.out.rb_at q HPQ.out.2.1
                        obtain ⟨j0, j1, -, -⟩ := rt2 H16.out.p1
                        have H17 := Lib.hid (H16.out.rb_set q HPQ.out.2.1 ⟨mn, md⟩)
                        go_wp2
                        go_roundw
                        case rel =>
                          have HZ := HNZ.out
                          refine ⟨k + 1, (moveP S x).1, by go_num, by omega, Lib.hid HZ, ?_⟩
                          rw [HE9.out, ← HFT.out]
                          have h18 := H17.out.p1.drop.p1.drop
                          exact (h18.p1).kn_mono HLE9.out
                        case measure => simp [intOf]; omega
                    · have HZ := HNZ.out
                      rw [HBAD.out (.inr (.inl c2))] at HZ
                      have HZZ := Lib.hid HZ
                      have hz : (me == 0) = false := by simpa using c2
                      subst c1
                      clear HZ j1 j0 c2
                      go_wp2
                      go_roundw
                      case rel =>
                        refine ⟨k + 1, S, by go_num, by omega, HZZ, ?_⟩
                        have h15 := H14.out.drop.drop
                        rw [HFA.out, HFT.out] at h15
                        exact h15.kn_mono HLE9.out
                      case measure => simp [intOf]; omega
                  · have HZ := HNZ.out
                    rw [HBAD.out (.inl c1)] at HZ
                    have HZZ := Lib.hid HZ
                    have hz : (le == 0) = false := by simpa using c1
                    clear HZ j1 j0 c1
                    go_wp2
                    go_roundw
                    case rel =>
                      refine ⟨k + 1, S, by go_num, by omega, HZZ, ?_⟩
                      have h15 := H14.out.drop.drop
                      rw [HFA.out, HFT.out] at h15
                      exact h15.kn_mono HLE9.out
                    case measure => simp [intOf]; omega
              /-VED4-/
            · as_aux_lemma =>
              /-DEV5-/
              have hla : laT 2 fr to1 S x = S := by unfold laT; rw [if_neg hc]
              have HNY := HNX.out
              rw [hla] at HNY
              have HNZ := Lib.hid HNY
              have HM := Lib.hid (H9.out.kn_mono HLE9.out)
              have HC4 := Lib.hid hc
              clear hla HNY H9 HX9 HNX HXT hc
              by_cases h16 : x.k = 16
              · rw [h16] at b0
                by_cases h2 : x.f = 2
                · rw [h2] at b3
                  by_cases hd1 : x.d ≤ (fr : Int)
                  · clear h16 h2
                    go_wp2
                    go_roundw
                    case rel => exact ⟨k + 1, S, by go_num, by omega, HNZ, HM.out⟩
                    case measure => simp [intOf]; omega
                  · have hd2 : (to1 : Int) < x.d := by
                      have := HC4.out
                      rcases Int.lt_or_le (to1 : Int) x.d with h | h
                      · exact h
                      · exact absurd ⟨h16, h2, by omega, h⟩ this
                    clear h16 h2
                    go_wp2
                    go_roundw
                    case rel => exact ⟨k + 1, S, by go_num, by omega, HNZ, HM.out⟩
                    case measure => simp [intOf]; omega
                · have hz : (x.f != 2) = true := by simpa using h2
                  clear h16 h2
                  go_wp2
                  go_roundw
                  case rel => exact ⟨k + 1, S, by go_num, by omega, HNZ, HM.out⟩
                  case measure => simp [intOf]; omega
              · have hz : (x.k != 16) = true := by simpa using h16
                clear h16
                go_wp2
                go_roundw
                case rel => exact ⟨k + 1, S, by go_num, by omega, HNZ, HM.out⟩
                case measure => simp [intOf]; omega
              /-VED5-/
          · obtain rfl : k = n := by omega
            have hz : ys.drop k = [] := List.drop_eq_nil_of_le (by rw [HY.out.1]; exact Nat.le_refl _)
            have hfin := HK.out.2
            rw [hz, List.foldl_nil] at hfin
            rw [hfin] at hS
            have HS := Lib.hid hS
            clear hS hz hfin HK
            go_wp2
            go_meet
            case rel => exact HS.out
        /-VED3-/
      case rest =>
        as_aux_lemma =>
        /-DEV6-/
        obtain ⟨S, hSd⟩ : ∃ S, S = scrS l to1 := ⟨_, rfl⟩
        have hown : own2 = ownsN S 10 := by rw [hSd]; exact ownsN_of (n := 10) (fun k hk => by have := scrS_dom l to1 k hk; omega) HOW2.out
        have hok : ShOk S := by rw [hSd]; exact scrS_ok l to1
        rw [← hSd] at hcut
        have HSO := Lib.hid (And.intro hown hok)
        have HCU := Lib.hid hcut
        have hn10 : n2 ≤ 10 := by
          rw [HN2.out, hown]
          unfold ownsN ownsP
          exact Nat.le_trans (List.length_filterMap_le _ _) (by simp)
        clear hSd hown hok hcut HH8 HY HC8
        go_upto_block 6 with (fail)
        go_cut [24] from 25 (fun nv wx => nv = .int .i64 n2 ∧ Sat w wx (sep (kn J8) (sep (rblk 44 G 10 (tenS S)) (sep (osl 46 3 a5 n2 c5 (ownC own2)) emp))))
        case first =>
          as_aux_lemma =>
          go_wp2
          go_loopw [25, 24] (fun iv nv wr => ∃ i m : Nat, iv = .int .i64 i ∧ i ≤ 10 ∧ nv = .int .i64 m ∧ m ≤ i ∧ Hid (m = (ownsN S i).length) ∧ Sat w wr (sep (kn J8) (sep (rblk 44 G 10 (tenS S)) (sep (osl 46 3 a5 n2 c5 (ownC own2)) emp)))) (fun iv _ _ => 11 - (intOf iv).toNat)
          case atStart => exact ⟨0, 0, rfl, by omega, rfl, by omega, Lib.hid rfl, HCU.out⟩
          case round =>
            obtain ⟨i, m, rfl, hi, rfl, hmi, HM, hS⟩ := hrel
            by_cases hlt : i < 10
            · have hltz : (i : Int) < 10 := by omega
              obtain ⟨c0, c1⟩ := hS.p1.rb_at i hlt
              by_cases hz : (tenS S i).n = 0
              · rw [hz] at c0
                have HM2 : Hid (m = (ownsN S (i + 1)).length) := Lib.hid (by rw [ownsN_nil hz]; exact HM.out)
                have HS := Lib.hid hS
                clear hS hz c1 HCU
                go_wp2
                go_roundw
                case rel => exact ⟨i + 1, m, by go_num, by omega, rfl, by omega, HM2, HS.out⟩
                case measure => simp [intOf]; omega
              · have h1 := ownsN_one HSO.out.2 hz
                have h2 := ownsN_get h1.2.1 h1.2.2 10 hlt
                rw [← HSO.out.1, ← HM.out] at h2
                have hm2 : m < n2 := by rw [HN2.out]; exact (List.getElem?_eq_some_iff.1 h2).1
                have HM2 : Hid (m + 1 = (ownsN S (i + 1)).length) := Lib.hid (by rw [h1.1, ← HM.out])
                have hd := hS.drew
                obtain ⟨wd, hwd⟩ : ∃ wd, wd = wr.drew := ⟨_, rfl⟩
                rw [← hwd] at hd
                obtain ⟨g5, x, r, e5, hx, k0, k1, k2⟩ := own_cells HN2.out.symm hd.p2 m hm2
                rw [hx] at h2
                obtain ⟨rfl, rfl⟩ := Prod.ext_iff.1 (Option.some.inj h2)
                obtain ⟨d0, d1⟩ := hd.p1.rb_at i hlt
                rw [e5] at hd ⊢
                dsimp only at k0 k1 k2
                obtain ⟨⟨rn, rd⟩, hrt⟩ : ∃ r, r = tenS S i := ⟨_, rfl⟩
                rw [← hrt] at k1 k2 d0 d1 c0 hz
                have hq : ∀ w0, (binOp .neq 44 (.agg #[.int .i64 rn, .int .i64 rd]) (.agg #[.int .i64 rn, .int .i64 rd])).run Tryz.prog w0 = .ok (.bool false) w0 := fun w0 => by
                  rw [rt_neq]; simp
                have hz1 : (rn == 0) = false := by simpa using hz
                have hm2z : (m : Int) < (n2 : Int) := by omega
                have hge : decide ((n2 : Int) ≤ (m : Int)) = false := decide_eq_false (by omega)
                have hge2 : decide (n2 ≤ m) = false := decide_eq_false (by omega)
                have hmI : (m : Int) ≤ 10 := by omega
                have HD := Lib.hid hd
                have HWD := Lib.hid hwd
                have HK := Lib.hid (And.intro k0 (And.intro k1 (And.intro k2 (And.intro d0 d1))))
                clear hS h1 h2 hx hd hwd k0 k1 k2 d0 d1 e5 hrt hz HCU hq
                have hq : ∀ w0, (binOp .neq 44 (.agg #[.int .i64 rn, .int .i64 rd]) (.agg #[.int .i64 rn, .int .i64 rd])).run Tryz.prog w0 = .ok (.bool false) w0 := fun w0 => by
                  rw [rt_neq]; simp
                go_upto_region 35 with (fail)
                clear c0 c1
                obtain ⟨k0, k1, k2, d0, d1⟩ := HK.out
                refine wp_region_canon rfl (fun _ => True) [(0, .p), (1, .p), (2, .p), (3, .p), (4, .p), (5, .p), (6, .p), (7, .p), (8, .p), (9, .t), (10, .p), (11, .p), (12, .p), (13, .p), (14, .p), (15, .p), (16, .p), (17, .p), (18, .t), (19, .p), (20, .p), (21, .p), (22, .t), (23, .p), (24, .p)] (by kernel_rfl) ?_
                have hS0 : True := trivial
                rw [← HWD.out]
                (repeat ((first | (refine C_p (v := ?_) rfl rfl (fun w' => ?_) ?_; rotate_left; (go_simp; with_reducible rfl)) | (refine C_s (v := ?_) rfl rfl hS0 (fun w' hS => ?_) ?_; rotate_left; ((try dsimp only at hS); go_simp; with_reducible rfl)) | (refine C_t (v := ?_) rfl rfl ?_ ?_; rotate_left; (go_simp; with_reducible rfl)) | (refine C_po rfl rfl ?_) | (refine C_so rfl rfl hS0 ?_) | (refine C_to rfl rfl ?_)); simp only [Act.put, List.setIfInBounds_toArray, List.set_cons_zero, List.set_cons_succ]))
                refine C_nil ?_
                clear k0 k1 k2 d0 d1 hq
                go_wp2
                go_roundw
                case rel => exact ⟨i + 1, m + 1, by go_num, by omega, by go_num, by omega, HM2, HD.out⟩
                case measure => simp [intOf]; omega
            · obtain rfl : i = 10 := by omega
              have hm : m = n2 := by rw [HM.out, HN2.out, HSO.out.1]
              have HS := Lib.hid hS
              subst hm
              clear hS
              go_wp2
              go_meet
              case rel => exact ⟨rfl, HS.out⟩
        case rest =>
          as_aux_lemma =>
          obtain ⟨rfl, h9⟩ := hcut
          have HL := Lib.hid (lives25_spec h9)
          clear h9 HCU
          go_wp2_with fail
          refine HL.out.mono ?_
          rintro e w10 ⟨rfl, h10⟩
          have HB := Lib.hid h10.below
          clear h10 HL
          go_wp2
          go_ret
          exact ⟨rfl, HB.out⟩
        /-VED6-/
end Go.Proofs.YtfapiopnjllnnaaGreatDoor
