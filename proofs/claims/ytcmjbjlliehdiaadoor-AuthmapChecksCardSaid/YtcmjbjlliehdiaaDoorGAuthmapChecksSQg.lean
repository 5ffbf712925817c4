/- The reference's Range. -/
import Derived.Test.YtcmjbjlliehdiaaDoorGAuthmapChecks29
namespace PA
open Go
def filtP (a b : Int) (L : PrL) : PrL := L.filter fun x => inR a b x.1
theorem filtP_len (a b : Int) (L : PrL) : (filtP a b L).length ≤ L.length := List.length_filter_le _ _
theorem filtP_snoc (a b : Int) (L : PrL) (x : Int × List UInt8) : filtP a b (L ++ [x]) = if inR a b x.1 = true then filtP a b L ++ [x] else filtP a b L := by
  unfold filtP
  rw [List.filter_append]
  by_cases h : inR a b x.1 = true
  · rw [if_pos h]; simp [h]
  · rw [if_neg h]; simp [h]
/-- Keys in order: the pairs of a range are those of the list. -/
theorem pairs_filt {L : PrL} (hL : AscP L) (a b : Int) : pairsL (lkP L) a b (L.map (·.1)) = filtP a b L := by
  have hg : ∀ x ∈ L, lkP L x.1 = some x.2 := fun x hx => by
    obtain ⟨i, hi, rfl⟩ := List.mem_iff_getElem.1 hx
    exact lkP_get hL i hi
  unfold pairsL filtP
  generalize hM : lkP L = M at hg
  clear hM hL
  induction L with
  | nil => rfl
  | cons x l ih =>
    have ih' := ih fun y hy => hg y (by simp [hy])
    have hx := hg x (by simp)
    rw [List.map_cons, List.filter_cons, List.filter_cons]
    split
    · rw [List.map_cons, ih', hx]; rfl
    · exact ih'
theorem akeys_lk {L : PrL} (hL : AscP L) : AKeys (lkP L) (L.map (·.1)) := by
  refine ⟨hL, fun k => ?_⟩
  constructor
  · intro h
    obtain ⟨x, hx, rfl⟩ := List.mem_map.1 h
    obtain ⟨i, hi, rfl⟩ := List.mem_iff_getElem.1 hx
    rw [lkP_get hL i hi]; rfl
  · intro h
    refine Classical.byContradiction fun hn => ?_
    rw [lkP_none fun x hx e => hn (List.mem_map.2 ⟨x, hx, e⟩)] at h
    cases h
theorem pairs_of {L : PrL} (hL : AscP L) {ks : List Int} (h : AKeys (lkP L) ks) (a b : Int) : pairsL (lkP L) a b ks = filtP a b L := by
  rw [akeys_unique h (akeys_lk hL), pairs_filt hL]
/-- A block outside of a range lies left of it or right of it. -/
theorem outL_side {a b : Int} (hab : a ≤ b) : ∀ (l : Nat) (n : Int), inT l n → ∀ x ∈ outL a b l n, (bFirst x < a ↔ bLast x < a)
  | 0, n, hT, x, hx => by
    rw [outL] at hx
    split at hx
    · rw [List.mem_singleton.1 hx]
      have := inT_bounds hT
      omega
    · cases hx
  | l + 1, n, hT, x, hx => by
    rw [outL] at hx
    split at hx
    · rw [List.mem_singleton.1 hx]
      have := inT_bounds hT
      omega
    · split at hx
      · cases hx
      · rcases List.mem_append.1 hx with h | h
        · exact outL_side hab l _ (inT_half hT).1 x h
        · exact outL_side hab l _ (inT_half hT).2 x h
end PA
namespace Go.Proofs.YtcmjbjlliehdiaaDoor
open Go.RowKit PA
attribute [local go_sem] Oper.semAt_some
def prfQ (q : Nat) (lf rt : List Nat) (sh : List UInt8) : Assn := ex fun c : (Option Addr × Nat) × (Option Addr × Nat) × (Option Addr × Nat) =>
  sep (blk q (.cells #[.slice c.1.1 lf.length c.1.2, .slice c.2.1.1 rt.length c.2.1.2, .slice c.2.2.1 sh.length c.2.2.2] 49 (0, 0)))
    (sep (osl 43 1 c.1.1 lf.length c.1.2 (lf.map uv)) (sep (osl 43 1 c.2.1.1 rt.length c.2.1.2 (rt.map uv)) (osl 5 1 c.2.2.1 sh.length c.2.2.2 (sh.map bv))))
theorem prfQ_open {W w : World} {A : Assn} {q : Nat} {lf rt : List Nat} {sh : List UInt8} (h : Sat W w (sep (prfQ q lf rt sh) A)) : ∃ (la : Option Addr) (lc : Nat) (ra : Option Addr) (rc : Nat) (sa : Option Addr) (sc : Nat),
    Sat W w (sep (blk q (.cells #[.slice la lf.length lc, .slice ra rt.length rc, .slice sa sh.length sc] 49 (0, 0))) (sep (osl 43 1 la lf.length lc (lf.map uv)) (sep (osl 43 1 ra rt.length rc (rt.map uv)) (sep (osl 5 1 sa sh.length sc (sh.map bv)) A)))) := by
  rw [prfQ, ex_sep, Sat.ex] at h
  obtain ⟨⟨c1, c2, c3⟩, h⟩ := h
  exact ⟨c1.1, c1.2, c2.1, c2.2, c3.1, c3.2, by simpa only [sep_comm, sep_lcomm, sep_assoc] using h⟩
theorem prfQ_mk {W w : World} {A : Assn} {q : Nat} {lf rt : List Nat} {sh : List UInt8} {la ra sa : Option Addr} {lc rc sc nl nr ns : Nat} (e1 : nl = lf.length) (e2 : nr = rt.length) (e3 : ns = sh.length)
    (h : Sat W w (sep (blk q (.cells #[.slice la nl lc, .slice ra nr rc, .slice sa ns sc] 49 (0, 0))) (sep (osl 43 1 la nl lc (lf.map uv)) (sep (osl 43 1 ra nr rc (rt.map uv)) (sep (osl 5 1 sa ns sc (sh.map bv)) A))))) : Sat W w (sep (prfQ q lf rt sh) A) := by
  subst e1 e2 e3
  rw [prfQ, ex_sep, Sat.ex]
  exact ⟨((la, lc), (ra, rc), (sa, sc)), by simpa only [sep_comm, sep_lcomm, sep_assoc] using h⟩
set_option maxRecDepth 100000 in
set_option maxHeartbeats 16000000 in
theorem qrange_ok {W w : World} {A : Assn} {I : Mem} {V : Assn} {q : Nat} {L : PrL} (hV : QV W V q L) (ha : AscP L) (hl4 : L.length ≤ 4000) (hvl : ∀ x ∈ L, x.2.length ≤ 65536) (a b : Int) (hab : 0 ≤ a ∧ a ≤ b ∧ b ≤ 4095) (h : Sat W w (sep V (sep (kn I) A))) :
    Calls Tryd.prog 28 #[.pointer (some ⟨q, 0, none⟩), .int .i64 a, .int .i64 b] w fun e w' => ∃ pa n pc la nl lc ra nr rc sa ns sc J, e = .returned (.tuple #[.slice pa n pc, .agg #[.slice la nl lc, .slice ra nr rc, .slice sa ns sc], .int .i64 0]) ∧ n = (filtP a b L).length ∧ Mem.le I J ∧
      (rPairQ.slice 2).rel J [.slice pa n pc] (filtP a b L) ∧ prfR J (.agg #[.slice la nl lc, .slice ra nr rc, .slice sa ns sc]) (rngP (lkP L) a b) ∧ Sat W w' (sep V (sep (kn J) A)) := by
  obtain ⟨xr, hxr⟩ : ∃ x, x = w.heap.size := ⟨_, rfl⟩
  have h1 := h.alloc (.cells #[.slice none 0 0, .slice none 0 0, .slice none 0 0] 49)
  obtain ⟨w1, hw1⟩ : ∃ w1, w1 = w.alloc (.cells #[.slice none 0 0, .slice none 0 0, .slice none 0 0] 49) := ⟨_, rfl⟩
  rw [← hxr, ← hw1] at h1
  obtain ⟨A1, hA1⟩ : ∃ A1, A1 = sep (blk xr (.cells #[.slice none 0 0, .slice none 0 0, .slice none 0 0] 49 (0, 0))) A := ⟨_, rfl⟩
  have h2 : Sat W w1 (sep V (sep (kn I) A1)) := by rw [hA1]; simpa only [sep_comm, sep_lcomm, sep_assoc] using h1
  have h3 : Sat W w1 (sep V (sep (kn I) (sep (osl 34 2 none 0 0 []) (sep ((rPairQ.rows 2).is [] []) A1)))) := by
    have := (rows_nil rPairQ 2 h2).osl_nil 34 2
    simpa only [sep_comm, sep_lcomm, sep_assoc] using this
  obtain ⟨nL, hnL⟩ : ∃ nL, nL = L.length := ⟨_, rfl⟩
  have hnL4 : nL ≤ 4000 := by omega
  have HX := Lib.hid (And.intro hxr hw1)
  have HA1 := Lib.hid hA1
  have HV := Lib.hid hV
  have HP := Lib.hid (And.intro ha (And.intro hvl hnL))
  have HAB := Lib.hid hab
  have H3 := Lib.hid h3
  have HH := Lib.hid (fun (w' : World) (B : Assn) (J : Mem) (l : Nat) (n : Int) (hT : inT l n) (h : Sat W w' (sep V (sep (kn J) B))) => qhash_all hV ha hl4 hvl l hT.1 n hT.2.1 hT.2.2 h)
  obtain ⟨ha0, hab1, hb4⟩ := hab
  clear hxr hw1 hA1 hV ha hvl hl4 hnL h h1 h2 h3
  go_enter Tryd.func28, Tryd.ntmps28
  go_upto_region 1 with (fail)
  rw [← HX.out.1, ← HX.out.2]
  go_wp2_with fail
  go_loopw [9, 10] (fun lv iv wr => ∃ (i : Nat) (oa : Option Addr) (m oc : Nat) (cells : List Value) (J : Mem), i ≤ nL ∧ m ≤ i ∧ lv = .slice oa m oc ∧ iv = .int .i64 (i : Nat) ∧ Hid (m = (filtP a b (L.take i)).length) ∧ Hid (Mem.le I J) ∧ Hid (Sat W wr (sep V (sep (kn J) (sep (osl 34 2 oa m oc cells) (sep ((rPairQ.rows 2).is cells (filtP a b (L.take i))) A1)))))) (fun _ iv _ => nL - (intOf iv).toNat)
  case atStart => exact ⟨0, none, 0, 0, [], I, Nat.zero_le _, Nat.le_refl _, rfl, rfl, Lib.hid rfl, Lib.hid (Mem.le_refl _), H3⟩
  case round =>
    clear H3
    obtain ⟨i, oa, m, oc, cells, J, hi, hmi, rfl, rfl, HM, HJ, HS⟩ := hrel
    obtain ⟨pa, pc, c0, hac, hcm, hpr⟩ := HV.out _ _ _ HS.out
    rw [← HP.out.2.2] at c0 hac
    have hcI : (pc : Int) ≤ 9223372036854775807 := by unfold maxLen at hcm; omega
    by_cases hlt : i < nL
    · have g1 : (i : Int) < (nL : Int) := by omega
      have hiL : i < L.length := by rw [← HP.out.2.2]; exact hlt
      obtain ⟨gb, go, va, vc, J1, rfl, f0, f1, hJ1, hr, hs⟩ := hpr i hiL
      have htk : L.take (i + 1) = L.take i ++ [L[i]] := List.take_succ_eq_append_getElem hiL
      obtain ⟨x, hx⟩ : ∃ z, z = L[i] := ⟨_, rfl⟩
      rw [← hx] at f0 f1 hr htk
      have hsn := filtP_snoc a b (L.take i) x
      rw [← htk] at hsn
      obtain ⟨k, hk⟩ : ∃ z, z = x.1 := ⟨_, rfl⟩
      obtain ⟨vl, hvl2⟩ : ∃ z, z = x.2.length := ⟨_, rfl⟩
      rw [← hk] at f0 hsn
      rw [← hvl2] at f1 hr
      by_cases hin : a ≤ k ∧ k ≤ b
      · obtain ⟨g2, g3⟩ := hin
        have hir : inR a b k = true := by unfold inR; rw [decide_eq_true g2, decide_eq_true g3]; rfl
        rw [if_pos hir] at hsn
        have hrp : rPairQ.rel J1 [.int .i64 k, .slice va vl vc] x := ⟨va, vc, by rw [hk, hvl2], by rw [← hvl2]; exact hr⟩
        have h5 := (show Sat W wr (sep (osl 34 2 oa m oc cells) (sep ((rPairQ.rows 2).is cells (filtP a b (L.take i))) (sep V (sep (kn J1) A1)))) by simpa only [sep_comm, sep_lcomm, sep_assoc] using hs).alloc0 (.cells #[.int .i64 k, .slice va vl vc] 34)
        have HR := Lib.hid (And.intro hsn (And.intro hrp (Mem.le_trans HJ.out hJ1)))
        have H5 := Lib.hid h5
        clear hpr hiL htk hx hsn hk hvl2 hir hrp hr hs hJ1 h5 HS hlt hcm
        go_wp2_with (at_builtin; refine wpl_append_osl rfl (.tmp 59) (.tmp 67) 27 rfl 34 2 32 (.agg #[.int .i64 0, .slice none 0 0]) Tryd.underlying27 infoQPair rfl rfl H5.out rfl [.int .i64 k, .slice va vl vc] rfl (by simp) (by intro b hb; cases hb; exact new_src _ [_, _] _) (by simp [Value.oneCell']) (by omega) (by unfold maxLen; omega) ?_)
        intro a2 c2 w2 h6
        have h7 := rowsk_snoc (show Sat W w2 (sep ((rPairQ.rows 2).is cells (filtP a b (L.take i))) (sep (kn J1) (sep (osl 34 2 a2 (m + 1) c2 (cells ++ [.int .i64 k, .slice va vl vc])) (sep V A1)))) by simpa only [sep_comm, sep_lcomm, sep_assoc] using h6) HR.out.2.1 rfl
        rw [← HR.out.1] at h7
        have H7 : Hid (Sat W w2 (sep V (sep (kn J1) (sep (osl 34 2 a2 (m + 1) c2 (cells ++ [.int .i64 k, .slice va vl vc])) (sep ((rPairQ.rows 2).is (cells ++ [.int .i64 k, .slice va vl vc]) (filtP a b (L.take (i + 1)))) A1))))) := Lib.hid (by
          simpa only [sep_comm, sep_lcomm, sep_assoc] using h7)
        clear h6 h7 H5 f0 f1 c0
        go_wp2_with fail
        go_roundw
        case rel => exact ⟨i + 1, a2, m + 1, c2, _, J1, by omega, by omega, rfl, by go_num, Lib.hid (by rw [HR.out.1, List.length_append, ← HM.out]; rfl), Lib.hid HR.out.2.2, H7⟩
        case measure => simp only [intOf]; omega
      · have hir : ¬ inR a b k = true := by unfold inR; intro h; rw [Bool.and_eq_true] at h; exact hin ⟨of_decide_eq_true h.1, of_decide_eq_true h.2⟩
        rw [if_neg hir] at hsn
        have HR := Lib.hid hsn
        have HN2 : Hid (m = (filtP a b (L.take (i + 1))).length) := Lib.hid (by rw [hsn]; exact HM.out)
        have HS2 : Hid (Sat W wr (sep V (sep (kn J) (sep (osl 34 2 oa m oc cells) (sep ((rPairQ.rows 2).is cells (filtP a b (L.take (i + 1)))) A1))))) := Lib.hid (by rw [hsn]; exact HS.out)
        clear hpr hiL htk hx hsn hk hvl2 hir hr hs hJ1 hlt hcm HS
        by_cases g2 : a ≤ k
        · have g3 : ¬ k ≤ b := fun h => hin ⟨g2, h⟩
          clear hin
          go_wp2_with fail
          go_roundw
          case rel => exact ⟨i + 1, oa, m, oc, cells, J, by omega, by omega, rfl, by go_num, HN2, HJ, HS2⟩
          case measure => simp only [intOf]; omega
        · clear hin
          go_wp2_with fail
          go_roundw
          case rel => exact ⟨i + 1, oa, m, oc, cells, J, by omega, by omega, rfl, by go_num, HN2, HJ, HS2⟩
          case measure => simp only [intOf]; omega
    · have g1 : ¬ (i : Int) < (nL : Int) := by omega
      obtain rfl : i = nL := by omega
      have htk : L.take i = L := List.take_of_length_le (by rw [HP.out.2.2]; exact Nat.le_refl _)
      rw [htk] at HM HS
      have h4 := Sat.slice_of_osl (R := rPairQ) (xs := filtP a b L) (show Sat W wr (sep (osl 34 2 oa m oc cells) (sep ((rPairQ.rows 2).is cells (filtP a b L)) (sep (kn J) (sep V A1)))) by have := HS.out; simpa only [sep_comm, sep_lcomm, sep_assoc] using this) HM.out
      obtain ⟨J1, hJ1, hrP, h5⟩ := h4.learn
      have h6 := h5.alloc (.cells #[.slice none 0 0, .slice none 0 0, .slice none 0 0] 49)
      obtain ⟨x2, hx2⟩ : ∃ x, x = wr.heap.size := ⟨_, rfl⟩
      obtain ⟨w2, hw2⟩ : ∃ w2, w2 = wr.alloc (.cells #[.slice none 0 0, .slice none 0 0, .slice none 0 0] 49) := ⟨_, rfl⟩
      rw [← hx2, ← hw2] at h6
      have h7 : Sat W w2 (sep (prfQ x2 [] [] []) (sep V (sep (kn J1) A1))) := by
        refine prfQ_mk (la := none) (ra := none) (sa := none) (lc := 0) (rc := 0) (sc := 0) (nl := 0) (nr := 0) (ns := 0) rfl rfl rfl ?_
        have := ((h6.osl_nil 43 1).osl_nil 43 1).osl_nil 5 1
        simpa only [List.map_nil, sep_comm, sep_lcomm, sep_assoc] using this
      have hO := qoutside_all (W := W) HAB.out 12 0 inT_top h7
      have hOT := fun (i : Nat) (hi : i < (outL a b 12 0).length) => And.intro (outL_inT a b 12 0 inT_top _ (List.getElem_mem hi)) (outL_side HAB.out.2.1 12 0 inT_top _ (List.getElem_mem hi))
      have hOl := outL_length a b 12 0
      rw [show (0 : Int) * 2 ^ 12 = 0 by decide, show (2 : Int) ^ 12 = 4096 by decide] at hO
      obtain ⟨O, hO1⟩ : ∃ O, O = outL a b 12 0 := ⟨_, rfl⟩
      rw [← hO1] at hO hOT hOl
      obtain ⟨nO, hnO⟩ : ∃ nO, nO = O.length := ⟨_, rfl⟩
      rw [← hnO] at hO hOl
      have HO := Lib.hid hO
      have HO1 := Lib.hid (And.intro hO1 (And.intro hnO hOT))
      have HX2 := Lib.hid (And.intro hx2 hw2)
      have HPR := Lib.hid (And.intro (Mem.le_trans HJ.out hJ1) hrP)
      have hnO4 : nO ≤ 4096 := by omega
      clear hpr hac hcm hlt hi htk h4 hJ1 hrP h5 h6 h7 hO hO1 hnO hOT hx2 hw2 HS hOl hcI
      go_upto_region 10 with (fail)
      rw [← HX2.out.1, ← HX2.out.2]
      go_wp2_with fail
      refine HO.out.mono ?_
      rintro e w3 ⟨ad, ac, rfl, h8⟩
      obtain ⟨A2, hA2⟩ : ∃ A2, A2 = sep (osl 117 2 ad nO ac (blkC O)) A1 := ⟨_, rfl⟩
      have H8 : Hid (Sat W w3 (sep V (sep (kn J1) (sep (prfQ x2 (leftL (lkP L) a (O.take 0)) (rightL (lkP L) a (O.take 0)) (shapeL (lkP L) (O.take 0))) A2)))) := Lib.hid (by
        rw [hA2]
        show Sat W w3 (sep V (sep (kn J1) (sep (prfQ x2 [] [] []) _)))
        simpa only [sep_comm, sep_lcomm, sep_assoc] using h8)
      have HA2 := Lib.hid hA2
      clear HO h8 hA2 c0 g1
      go_wp2_with fail
      go_loopw [13] (fun iv wr => ∃ (i : Nat), i ≤ nO ∧ iv = .int .i64 (i : Nat) ∧ Hid (Sat W wr (sep V (sep (kn J1) (sep (prfQ x2 (leftL (lkP L) a (O.take i)) (rightL (lkP L) a (O.take i)) (shapeL (lkP L) (O.take i))) A2))))) (fun iv _ => nO - (intOf iv).toNat)
      case atStart => exact ⟨0, Nat.zero_le _, rfl, H8⟩
      case round =>
        clear H8
        obtain ⟨j, hj, rfl, HS⟩ := hrel
        by_cases hlt : j < nO
        · have g1 : (j : Int) < (nO : Int) := by omega
          have hjO : j < O.length := by rw [← HO1.out.2.1]; exact hlt
          obtain ⟨hT, hside⟩ := HO1.out.2.2 j hjO
          have htk : O.take (j + 1) = O.take j ++ [O[j]] := List.take_succ_eq_append_getElem hjO
          obtain ⟨gc0, gc1⟩ := blkC_get O j hjO
          obtain ⟨⟨l, n⟩, hx⟩ : ∃ z, z = O[j] := ⟨_, rfl⟩
          rw [← hx] at hT hside htk gc0 gc1
          dsimp only at hT gc0 gc1
          obtain ⟨M, hM⟩ : ∃ M, M = lkP L := ⟨_, rfl⟩
          rw [← hM] at HS ⊢
          obtain ⟨RS, hRS⟩ : ∃ RS, RS = sep V (sep (kn J1) A2) := ⟨_, rfl⟩
          have HRS := Lib.hid hRS
          have hne : blkC O ≠ [] := by intro e; rw [e] at gc0; simp at gc0
          have hcO : ∀ w' X, Sat W w' (sep RS X) → ∃ g, ad = some ⟨g, 0, none⟩ ∧ w'.cell? ⟨g, j * 2, none⟩ = some (.int .i64 (n * 2 ^ l)) ∧ w'.cell? ⟨g, j * 2 + 1, none⟩ = some (.int .i64 (2 ^ l)) := fun w' X h => by
            rw [hRS, HA2.out] at h
            have h' : Sat W w' (sep (osl 117 2 ad nO ac (blkC O)) (sep V (sep (kn J1) (sep A1 X)))) := by simpa only [sep_comm, sep_lcomm, sep_assoc] using h
            obtain ⟨g, e, hg⟩ := h'.osl_at hne
            exact ⟨g, e, hg _ _ gc0, hg _ _ gc1⟩
          have h9 : Sat W wr.drew (sep RS (prfQ x2 (leftL M a (O.take j)) (rightL M a (O.take j)) (shapeL M (O.take j)))) := by
            rw [hRS]
            have := HS.out.drew
            simpa only [sep_comm, sep_lcomm, sep_assoc] using this
          obtain ⟨g, rfl, f0, f1⟩ := hcO wr.drew _ h9
          have hHash := HH.out wr.drew (sep (prfQ x2 (leftL M a (O.take j)) (rightL M a (O.take j)) (shapeL M (O.take j))) A2) J1 l n hT (by have := HS.out.drew; exact this)
          rw [← hM] at hHash
          have hhlt := hbN_lt M l n
          obtain ⟨hb, hhb⟩ : ∃ hb, hb = hbN M l n := ⟨_, rfl⟩
          rw [← hhb] at hHash hhlt
          obtain ⟨F, hF⟩ : ∃ F, F = n * 2 ^ l := ⟨_, rfl⟩
          obtain ⟨Z, hZ⟩ : ∃ Z : Int, Z = 2 ^ l := ⟨_, rfl⟩
          have hbF : bFirst (l, n) = F := by rw [hF]; rfl
          rw [hbF] at hside
          rw [← hF] at f0 hHash hcO
          rw [← hZ] at f1 hHash hcO
          obtain ⟨L1, hL1⟩ : ∃ L1, L1 = leftL M a (O.take j) := ⟨_, rfl⟩
          obtain ⟨R1, hR1⟩ : ∃ R1, R1 = rightL M a (O.take j) := ⟨_, rfl⟩
          obtain ⟨S1, hS1⟩ : ∃ S1, S1 = shapeL M (O.take j) := ⟨_, rfl⟩
          have hl1 : L1.length ≤ 4096 := by rw [hL1]; have := leftL_len M a (O.take j); rw [List.length_take] at this; omega
          have hr1 : R1.length ≤ 4096 := by rw [hR1]; have := rightL_len M a (O.take j); rw [List.length_take] at this; omega
          have hs1 : S1.length ≤ 4096 := by rw [hS1, shapeL, List.length_map, List.length_take]; omega
          rw [← hL1, ← hR1, ← hS1] at hHash
          have hno : hb = none → leftL M a (O.take (j + 1)) = L1 ∧ rightL M a (O.take (j + 1)) = R1 ∧ shapeL M (O.take (j + 1)) = S1 ++ [0] := fun e => by
            rw [htk, leftL_no _ (by rw [leftF, ← hhb, e, ite_self]), rightL_no _ (by rw [rightF, ← hhb, e, ite_self]), shapeL_snoc, ← hL1, ← hR1, ← hS1, someB, ← hhb, e]
            exact ⟨rfl, rfl, rfl⟩
          have hyes : ∀ h, hb = some h → shapeL M (O.take (j + 1)) = S1 ++ [1] ∧ (F < a → leftL M a (O.take (j + 1)) = L1 ++ [h] ∧ rightL M a (O.take (j + 1)) = R1) ∧ (¬ F < a → leftL M a (O.take (j + 1)) = L1 ∧ rightL M a (O.take (j + 1)) = R1 ++ [h]) := fun h e => by
            refine ⟨by rw [htk, shapeL_snoc, ← hS1, someB, ← hhb, e]; rfl, fun hf => ?_, fun hf => ?_⟩
            · have hl := hside.1 hf
              rw [htk, leftL_so _ (v := h) (by rw [leftF, if_pos hl, ← hhb, e]), rightL_no _ (by rw [rightF, if_pos hl]), ← hL1, ← hR1]
              exact ⟨rfl, rfl⟩
            · have hl : ¬ bLast (l, n) < a := fun h => hf (hside.2 h)
              rw [htk, leftL_no _ (by rw [leftF, if_neg hl]), rightL_so _ (v := h) (by rw [rightF, if_neg hl, ← hhb, e]), ← hL1, ← hR1]
              exact ⟨rfl, rfl⟩
          have HHash := Lib.hid hHash
          have HCO := Lib.hid hcO
          have HNO := Lib.hid (And.intro hno hyes)
          have HM0 := Lib.hid hM
          clear hjO hT hside htk gc0 gc1 hx hM hRS hne hcO h9 hHash hhb hF hZ hbF hL1 hR1 hS1 hno hyes HS
          go_wp2_with fail
          refine wp_region_canon rfl (fun _ => True) [(0, .p), (1, .p), (2, .p), (3, .p), (4, .p), (5, .t), (6, .p), (7, .p), (8, .p), (9, .p), (10, .t), (11, .e false), (12, .p), (13, .p), (14, .p), (15, .p), (16, .p)] (by kernel_rfl) ?_
          have hS0 : True := trivial
          (repeat ((first | (refine C_p (v := ?_) rfl rfl (fun w' => ?_) ?_; rotate_left; (go_simp; with_reducible rfl)) | (refine C_s (v := ?_) rfl rfl hS0 (fun w' hS => ?_) ?_; rotate_left; ((try dsimp only at hS); go_simp; with_reducible rfl)) | (refine C_t (v := ?_) rfl rfl ?_ ?_; rotate_left; (go_simp; with_reducible rfl)) | (refine C_po rfl rfl ?_) | (refine C_so rfl rfl hS0 ?_) | (refine C_to rfl rfl ?_)); simp only [Act.put, List.setIfInBounds_toArray, List.set_cons_zero, List.set_cons_succ]))
          (refine C_e rfl rfl (fun K hK => ?_); go_simp)
          refine HHash.out.mono ?_
          rintro e w4 ⟨rfl, h10⟩
          have H10 : Hid (Sat W w4 (sep (prfQ x2 L1 R1 S1) RS)) := Lib.hid (by
            rw [HRS.out]
            simpa only [sep_comm, sep_lcomm, sep_assoc] using h10)
          clear HHash h10 f0 f1
          (refine hK _ _ (fun h => by cases h) ?_; clear hK K; (try simp only [Act.put, List.setIfInBounds_toArray, List.set_cons_zero, List.set_cons_succ]))
          (repeat ((first | (refine C_p (v := ?_) rfl rfl (fun w' => ?_) ?_; rotate_left; (go_simp; with_reducible rfl)) | (refine C_s (v := ?_) rfl rfl hS0 (fun w' hS => ?_) ?_; rotate_left; ((try dsimp only at hS); go_simp; with_reducible rfl)) | (refine C_t (v := ?_) rfl rfl ?_ ?_; rotate_left; (go_simp; with_reducible rfl)) | (refine C_po rfl rfl ?_) | (refine C_so rfl rfl hS0 ?_) | (refine C_to rfl rfl ?_)); simp only [Act.put, List.setIfInBounds_toArray, List.set_cons_zero, List.set_cons_succ]))
          refine C_nil ?_
          obtain ⟨la, lc, ra, rc, sa, sc, h11⟩ := prfQ_open H10.out
          obtain ⟨nl, hnl⟩ : ∃ nl, nl = L1.length := ⟨_, rfl⟩
          obtain ⟨nr, hnr⟩ : ∃ nr, nr = R1.length := ⟨_, rfl⟩
          obtain ⟨ns, hns⟩ : ∃ ns, ns = S1.length := ⟨_, rfl⟩
          rw [← hnl, ← hnr, ← hns] at h11
          rw [← hnl] at hl1
          rw [← hnr] at hr1
          rw [← hns] at hs1
          have HN := Lib.hid (And.intro hnl (And.intro hnr (And.intro hns trivial)))
          have c2 : w4.cell? ⟨x2, 2, none⟩ = some (.slice sa ns sc) := h11.cell 2
          cases hb with
          | none =>
            obtain ⟨e1, e2, e3⟩ := HNO.out.1 rfl
            have HE := Lib.hid (And.intro e1 (And.intro e2 e3))
            have h12 := (show Sat W w4 (sep (osl 5 1 sa ns sc (S1.map bv)) (sep (blk x2 (.cells #[.slice la nl lc, .slice ra nr rc, .slice sa ns sc] 49 (0, 0))) (sep (osl 43 1 la nl lc (L1.map uv)) (sep (osl 43 1 ra nr rc (R1.map uv)) RS)))) by simpa only [sep_comm, sep_lcomm, sep_assoc] using h11).alloc (.cells #[.int .u8 0] 5)
            have h13 : Sat W (w4.alloc (.cells #[.int .u8 0] 5)) (sep (osl 5 1 sa ns sc (S1.map bv)) (sep (blk x2 (.cells #[.slice la nl lc, .slice ra nr rc, .slice sa ns sc] 49 (0, 0))) (sep (osl 43 1 la nl lc (L1.map uv)) (sep (osl 43 1 ra nr rc (R1.map uv)) RS)))) := h12.drop
            have H13 := Lib.hid h13
            clear h11 h12 h13 hnl hnr hns e1 e2 e3 H10
            go_wp2_with (at_builtin; refine wpl_append_osl rfl (.tmp 98) (.tmp 99) 32 rfl 5 1 1 (.int .u8 0) Tryd.underlying32 infoU8c rfl rfl H13.out rfl [.int .u8 0] rfl (by simp) (by intro b hb; cases hb; exact new_src _ [_] _) (by simp [Value.oneCell']) (by omega) (by unfold maxLen; omega) ?_)
            intro sa2 sc2 w5 h14
            have f2 : w5.frozen? ⟨x2, 2, none⟩ = false := h14.p1.unfrozen 2
            have c2' : w5.cell? ⟨x2, 2, none⟩ = some (.slice sa ns sc) := h14.p1.cell 2
            have h15 := h14.p1.setCell 2 (.slice sa2 (ns + 1) sc2)
            have H15 : Hid (Sat W (w5.setCell ⟨x2, 2, none⟩ (.slice sa2 (ns + 1) sc2)) (sep V (sep (kn J1) (sep (prfQ x2 (leftL M a (O.take (j + 1))) (rightL M a (O.take (j + 1))) (shapeL M (O.take (j + 1)))) A2)))) := Lib.hid (by
              rw [HE.out.1, HE.out.2.1, HE.out.2.2]
              have h18 : Sat W (w5.setCell ⟨x2, 2, none⟩ (.slice sa2 (ns + 1) sc2)) (sep (prfQ x2 L1 R1 (S1 ++ [0])) RS) := by
                refine prfQ_mk (la := la) (lc := lc) (ra := ra) (rc := rc) (sa := sa2) (sc := sc2) (nl := nl) (nr := nr) (ns := ns + 1) HN.out.1 HN.out.2.1 (by simp [HN.out.2.2.1]) ?_
                have e7 : (S1 ++ [(0 : UInt8)]).map bv = S1.map bv ++ [.int .u8 0] := by rw [List.map_append]; rfl
                rw [e7]
                have h19 : Sat W (w5.setCell ⟨x2, 2, none⟩ (.slice sa2 (ns + 1) sc2)) (sep (blk x2 (.cells #[.slice la nl lc, .slice ra nr rc, .slice sa2 (ns + 1) sc2] 49 (0, 0))) (sep (osl 5 1 sa2 (ns + 1) sc2 (S1.map bv ++ [.int .u8 0])) (sep (osl 43 1 la nl lc (L1.map uv)) (sep (osl 43 1 ra nr rc (R1.map uv)) RS)))) := h15
                simpa only [sep_comm, sep_lcomm, sep_assoc] using h19
              rw [HRS.out] at h18
              simpa only [sep_comm, sep_lcomm, sep_assoc] using h18)
            clear h14 h15 H13 c2
            go_wp2_with fail
            go_roundw
            case rel => exact ⟨j + 1, by omega, by go_num, H15⟩
            case measure => simp only [intOf]; omega
          | some hh =>
            obtain ⟨e3, e12⟩ := HNO.out.2 hh rfl
            have hhl : hh < 18446744073709551616 := hhlt hh rfl
            have HE0 := Lib.hid (And.intro e3 e12)
            have h12 := (show Sat W w4 (sep (osl 5 1 sa ns sc (S1.map bv)) (sep (blk x2 (.cells #[.slice la nl lc, .slice ra nr rc, .slice sa ns sc] 49 (0, 0))) (sep (osl 43 1 la nl lc (L1.map uv)) (sep (osl 43 1 ra nr rc (R1.map uv)) RS)))) by simpa only [sep_comm, sep_lcomm, sep_assoc] using h11).alloc (.cells #[.int .u8 1] 5)
            have h13 : Sat W (w4.alloc (.cells #[.int .u8 1] 5)) (sep (osl 5 1 sa ns sc (S1.map bv)) (sep (blk x2 (.cells #[.slice la nl lc, .slice ra nr rc, .slice sa ns sc] 49 (0, 0))) (sep (osl 43 1 la nl lc (L1.map uv)) (sep (osl 43 1 ra nr rc (R1.map uv)) RS)))) := h12.drop
            have H13 := Lib.hid h13
            clear h11 h12 h13 hnl hnr hns e3 e12 H10
            go_wp2_with (at_builtin; refine wpl_append_osl rfl (.tmp 103) (.tmp 104) 32 rfl 5 1 1 (.int .u8 0) Tryd.underlying32 infoU8c rfl rfl H13.out rfl [.int .u8 1] rfl (by simp) (by intro b hb; cases hb; exact new_src _ [_] _) (by simp [Value.oneCell']) (by omega) (by unfold maxLen; omega) ?_)
            intro sa2 sc2 w5 h14
            have f2 : w5.frozen? ⟨x2, 2, none⟩ = false := h14.p1.unfrozen 2
            have c2' : w5.cell? ⟨x2, 2, none⟩ = some (.slice sa ns sc) := h14.p1.cell 2
            have h15 := h14.p1.setCell 2 (.slice sa2 (ns + 1) sc2)
            obtain ⟨w6, hw6⟩ : ∃ w6, w6 = w5.setCell ⟨x2, 2, none⟩ (.slice sa2 (ns + 1) sc2) := ⟨_, rfl⟩
            obtain ⟨sv, hsv⟩ : ∃ sv, sv = (S1 ++ [(1 : UInt8)]).map bv := ⟨_, rfl⟩
            have h16 : Sat W w6 (sep (blk x2 (.cells #[.slice la nl lc, .slice ra nr rc, .slice sa2 (ns + 1) sc2] 49 (0, 0))) (sep (osl 5 1 sa2 (ns + 1) sc2 sv) (sep (osl 43 1 la nl lc (L1.map uv)) (sep (osl 43 1 ra nr rc (R1.map uv)) RS)))) := by
              rw [hw6, hsv, show (S1 ++ [(1 : UInt8)]).map bv = S1.map bv ++ [.int .u8 1] by rw [List.map_append]; rfl]
              exact h15
            have H6 := Lib.hid h16
            have HSV := Lib.hid hsv
            have HW6 := Lib.hid hw6
            obtain ⟨g', eg, d0, d1⟩ := HCO.out w6 _ (show Sat W w6 (sep RS (sep (blk x2 (.cells #[.slice la nl lc, .slice ra nr rc, .slice sa2 (ns + 1) sc2] 49 (0, 0))) (sep (osl 5 1 sa2 (ns + 1) sc2 sv) (sep (osl 43 1 la nl lc (L1.map uv)) (osl 43 1 ra nr rc (R1.map uv)))))) by simpa only [sep_comm, sep_lcomm, sep_assoc] using h16)
            simp only [Option.some.injEq, Addr.mk.injEq, and_true] at eg
            subst eg
            clear h14 h15 h16 hw6 H13 c2 hsv
            go_upto_region 18 with (fail)
            rw [← HW6.out]
            by_cases hf : F < a
            · have HE : Hid (leftL M a (O.take (j + 1)) = L1 ++ [hh] ∧ rightL M a (O.take (j + 1)) = R1 ∧ shapeL M (O.take (j + 1)) = S1 ++ [1] ∧ True) := Lib.hid (by
                exact ⟨(HE0.out.2.1 (by omega)).1, (HE0.out.2.1 (by omega)).2, HE0.out.1, trivial⟩)
              clear f2 c2'
              have h14 := (show Sat W w6 (sep (osl 43 1 la nl lc (L1.map uv)) (sep (blk x2 (.cells #[.slice la nl lc, .slice ra nr rc, .slice sa2 (ns + 1) sc2] 49 (0, 0))) (sep (osl 43 1 ra nr rc (R1.map uv)) (sep (osl 5 1 sa2 (ns + 1) sc2 sv) RS)))) by have := H6.out; simpa only [sep_comm, sep_lcomm, sep_assoc] using this).alloc (.cells #[.int .u64 (hh : Int)] 43)
              have h15 : Sat W (w6.alloc (.cells #[.int .u64 (hh : Int)] 43)) (sep (osl 43 1 la nl lc (L1.map uv)) (sep (blk x2 (.cells #[.slice la nl lc, .slice ra nr rc, .slice sa2 (ns + 1) sc2] 49 (0, 0))) (sep (osl 43 1 ra nr rc (R1.map uv)) (sep (osl 5 1 sa2 (ns + 1) sc2 sv) RS)))) := h14.drop
              have c5 : w6.cell? ⟨x2, 0, none⟩ = some (.slice la nl lc) := H6.out.cell 0
              have H15 := Lib.hid h15
              clear h14 h15
              go_wp2_with (at_builtin; refine wpl_append_osl rfl (.tmp 115) (.tmp 117) 38 rfl 43 1 8 (.int .u64 0) Tryd.underlying38 infoU64q rfl rfl H15.out rfl [.int .u64 (hh : Int)] rfl (by simp) (by intro b hb; cases hb; exact new_src _ [_] _) (by simp [Value.oneCell']) (by omega) (by unfold maxLen; omega) ?_)
              intro a7 c7 w7 h16
              have f7 : w7.frozen? ⟨x2, 0, none⟩ = false := h16.p1.unfrozen 0
              have c8 : w7.cell? ⟨x2, 0, none⟩ = some (.slice la nl lc) := h16.p1.cell 0
              have h17 := h16.p1.setCell 0 (.slice a7 (nl + 1) c7)
              have H17 : Hid (Sat W (w7.setCell ⟨x2, 0, none⟩ (.slice a7 (nl + 1) c7)) (sep V (sep (kn J1) (sep (prfQ x2 (leftL M a (O.take (j + 1))) (rightL M a (O.take (j + 1))) (shapeL M (O.take (j + 1)))) A2)))) := Lib.hid (by
                rw [HE.out.1, HE.out.2.1, HE.out.2.2.1]
                have h18 : Sat W (w7.setCell ⟨x2, 0, none⟩ (.slice a7 (nl + 1) c7)) (sep (prfQ x2 (L1 ++ [hh]) R1 (S1 ++ [1])) RS) := by
                  refine prfQ_mk (la := a7) (lc := c7) (ra := ra) (rc := rc) (sa := sa2) (sc := sc2) (nl := nl + 1) (nr := nr) (ns := ns + 1) (by simp [HN.out.1]) (by simp [HN.out.2.1]) (by simp [HN.out.2.2.1]) ?_
                  have e7 : (L1 ++ [hh]).map uv = L1.map uv ++ [.int .u64 (hh : Int)] := by rw [List.map_append]; rfl
                  rw [e7, ← HSV.out]
                  have h19 : Sat W (w7.setCell ⟨x2, 0, none⟩ (.slice a7 (nl + 1) c7)) (sep (blk x2 (.cells #[.slice a7 (nl + 1) c7, .slice ra nr rc, .slice sa2 (ns + 1) sc2] 49 (0, 0))) (sep (osl 43 1 a7 (nl + 1) c7 (L1.map uv ++ [.int .u64 (hh : Int)])) (sep (osl 43 1 ra nr rc (R1.map uv)) (sep (osl 5 1 sa2 (ns + 1) sc2 sv) RS)))) := h17
                  simpa only [sep_comm, sep_lcomm, sep_assoc] using h19
                rw [HRS.out] at h18
                simpa only [sep_comm, sep_lcomm, sep_assoc] using h18)
              clear h16 h17 H15 H6 c5
              go_wp2_with fail
              go_roundw
              case rel => exact ⟨j + 1, by omega, by go_num, H17⟩
              case measure => simp only [intOf]; omega
            · have HE : Hid (leftL M a (O.take (j + 1)) = L1 ∧ rightL M a (O.take (j + 1)) = R1 ++ [hh] ∧ shapeL M (O.take (j + 1)) = S1 ++ [1] ∧ True) := Lib.hid (by
                exact ⟨(HE0.out.2.2 (by omega)).1, (HE0.out.2.2 (by omega)).2, HE0.out.1, trivial⟩)
              clear f2 c2'
              have h14 := (show Sat W w6 (sep (osl 43 1 ra nr rc (R1.map uv)) (sep (blk x2 (.cells #[.slice la nl lc, .slice ra nr rc, .slice sa2 (ns + 1) sc2] 49 (0, 0))) (sep (osl 43 1 la nl lc (L1.map uv)) (sep (osl 5 1 sa2 (ns + 1) sc2 sv) RS)))) by have := H6.out; simpa only [sep_comm, sep_lcomm, sep_assoc] using this).alloc (.cells #[.int .u64 (hh : Int)] 43)
              have h15 : Sat W (w6.alloc (.cells #[.int .u64 (hh : Int)] 43)) (sep (osl 43 1 ra nr rc (R1.map uv)) (sep (blk x2 (.cells #[.slice la nl lc, .slice ra nr rc, .slice sa2 (ns + 1) sc2] 49 (0, 0))) (sep (osl 43 1 la nl lc (L1.map uv)) (sep (osl 5 1 sa2 (ns + 1) sc2 sv) RS)))) := h14.drop
              have c5 : w6.cell? ⟨x2, 1, none⟩ = some (.slice ra nr rc) := H6.out.cell 1
              have H15 := Lib.hid h15
              clear h14 h15
              go_wp2_with (at_builtin; refine wpl_append_osl rfl (.tmp 121) (.tmp 123) 38 rfl 43 1 8 (.int .u64 0) Tryd.underlying38 infoU64q rfl rfl H15.out rfl [.int .u64 (hh : Int)] rfl (by simp) (by intro b hb; cases hb; exact new_src _ [_] _) (by simp [Value.oneCell']) (by omega) (by unfold maxLen; omega) ?_)
              intro a7 c7 w7 h16
              have f7 : w7.frozen? ⟨x2, 1, none⟩ = false := h16.p1.unfrozen 1
              have c8 : w7.cell? ⟨x2, 1, none⟩ = some (.slice ra nr rc) := h16.p1.cell 1
              have h17 := h16.p1.setCell 1 (.slice a7 (nr + 1) c7)
              have H17 : Hid (Sat W (w7.setCell ⟨x2, 1, none⟩ (.slice a7 (nr + 1) c7)) (sep V (sep (kn J1) (sep (prfQ x2 (leftL M a (O.take (j + 1))) (rightL M a (O.take (j + 1))) (shapeL M (O.take (j + 1)))) A2)))) := Lib.hid (by
                rw [HE.out.1, HE.out.2.1, HE.out.2.2.1]
                have h18 : Sat W (w7.setCell ⟨x2, 1, none⟩ (.slice a7 (nr + 1) c7)) (sep (prfQ x2 L1 (R1 ++ [hh]) (S1 ++ [1])) RS) := by
                  refine prfQ_mk (la := la) (lc := lc) (ra := a7) (rc := c7) (sa := sa2) (sc := sc2) (nl := nl) (nr := nr + 1) (ns := ns + 1) (by simp [HN.out.1]) (by simp [HN.out.2.1]) (by simp [HN.out.2.2.1]) ?_
                  have e7 : (R1 ++ [hh]).map uv = R1.map uv ++ [.int .u64 (hh : Int)] := by rw [List.map_append]; rfl
                  rw [e7, ← HSV.out]
                  have h19 : Sat W (w7.setCell ⟨x2, 1, none⟩ (.slice a7 (nr + 1) c7)) (sep (blk x2 (.cells #[.slice la nl lc, .slice a7 (nr + 1) c7, .slice sa2 (ns + 1) sc2] 49 (0, 0))) (sep (osl 43 1 a7 (nr + 1) c7 (R1.map uv ++ [.int .u64 (hh : Int)])) (sep (osl 43 1 la nl lc (L1.map uv)) (sep (osl 5 1 sa2 (ns + 1) sc2 sv) RS)))) := h17
                  simpa only [sep_comm, sep_lcomm, sep_assoc] using h19
                rw [HRS.out] at h18
                simpa only [sep_comm, sep_lcomm, sep_assoc] using h18)
              clear h16 h17 H15 H6 c5
              go_wp2_with fail
              go_roundw
              case rel => exact ⟨j + 1, by omega, by go_num, H17⟩
              case measure => simp only [intOf]; omega
        · have g1 : ¬ (j : Int) < (nO : Int) := by omega
          obtain rfl : j = nO := by omega
          have htk : O.take j = O := List.take_of_length_le (by rw [HO1.out.2.1]; exact Nat.le_refl _)
          rw [htk] at HS
          obtain ⟨la, lc, ra, rc, sa, sc, h11⟩ := prfQ_open (show Sat W wr (sep (prfQ x2 (leftL (lkP L) a O) (rightL (lkP L) a O) (shapeL (lkP L) O)) (sep V (sep (kn J1) A2))) by have := HS.out; simpa only [sep_comm, sep_lcomm, sep_assoc] using this)
          obtain ⟨L1, hL1⟩ : ∃ L1, L1 = leftL (lkP L) a O := ⟨_, rfl⟩
          obtain ⟨R1, hR1⟩ : ∃ R1, R1 = rightL (lkP L) a O := ⟨_, rfl⟩
          obtain ⟨S1, hS1⟩ : ∃ S1, S1 = shapeL (lkP L) O := ⟨_, rfl⟩
          rw [← hL1, ← hR1, ← hS1] at h11
          obtain ⟨nl, hnl⟩ : ∃ nl, nl = L1.length := ⟨_, rfl⟩
          obtain ⟨nr, hnr⟩ : ∃ nr, nr = R1.length := ⟨_, rfl⟩
          obtain ⟨ns, hns⟩ : ∃ ns, ns = S1.length := ⟨_, rfl⟩
          rw [← hnl, ← hnr, ← hns] at h11
          obtain ⟨J2, hJ2, hq1, h12⟩ := hs_learn (show Sat W wr (sep (osl 43 1 la nl lc (L1.map uv)) (sep (kn J1) (sep (osl 43 1 ra nr rc (R1.map uv)) (sep (osl 5 1 sa ns sc (S1.map bv)) (sep (blk x2 (.cells #[.slice la nl lc, .slice ra nr rc, .slice sa ns sc] 49 (0, 0))) (sep V A2)))))) by simpa only [sep_comm, sep_lcomm, sep_assoc] using h11) hnl
          obtain ⟨J3, hJ3, hq2, h13⟩ := hs_learn (show Sat W wr (sep (osl 43 1 ra nr rc (R1.map uv)) (sep (kn J2) (sep (osl 5 1 sa ns sc (S1.map bv)) (sep (blk x2 (.cells #[.slice la nl lc, .slice ra nr rc, .slice sa ns sc] 49 (0, 0))) (sep V A2))))) by simpa only [sep_comm, sep_lcomm, sep_assoc] using h12) hnr
          obtain ⟨J4, hJ4, hq3, h14⟩ := osl_learnQ (show Sat W wr (sep (osl 5 1 sa ns sc (S1.map bv)) (sep (kn J3) (sep (blk x2 (.cells #[.slice la nl lc, .slice ra nr rc, .slice sa ns sc] 49 (0, 0))) (sep V A2)))) by simpa only [sep_comm, sep_lcomm, sep_assoc] using h13) hns
          rw [HA2.out, HA1.out] at h14
          have h15 := (show Sat W wr (sep (osl 117 2 ad j ac (blkC O)) (sep (blk xr (.cells #[.slice none 0 0, .slice none 0 0, .slice none 0 0] 49 (0, 0))) (sep (blk x2 (.cells #[.slice la nl lc, .slice ra nr rc, .slice sa ns sc] 49 (0, 0))) (sep V (sep (kn J4) A))))) by simpa only [sep_comm, sep_lcomm, sep_assoc] using h14).forget_osl
          have y0 : wr.cell? ⟨x2, 0, none⟩ = some (.slice la nl lc) := h15.p1.cell 0
          have y1 : wr.cell? ⟨x2, 1, none⟩ = some (.slice ra nr rc) := h15.p1.cell 1
          have y2 : wr.cell? ⟨x2, 2, none⟩ = some (.slice sa ns sc) := h15.p1.cell 2
          have s0 : wr.cell? ⟨xr, 0, none⟩ = some (.slice none 0 0) := h15.cell 0
          have s1 : wr.cell? ⟨xr, 1, none⟩ = some (.slice none 0 0) := h15.cell 1
          have s2 : wr.cell? ⟨xr, 2, none⟩ = some (.slice none 0 0) := h15.cell 2
          have v0 : wr.frozen? ⟨xr, 0, none⟩ = false := h15.unfrozen 0
          have v1 : wr.frozen? ⟨xr, 1, none⟩ = false := h15.unfrozen 1
          have v2 : wr.frozen? ⟨xr, 2, none⟩ = false := h15.unfrozen 2
          obtain ⟨wf, hwf⟩ : ∃ wf, wf = (((wr.setCell ⟨xr, 0, none⟩ (.slice la nl lc)).setCell ⟨xr, 1, none⟩ (.slice ra nr rc)).setCell ⟨xr, 2, none⟩ (.slice sa ns sc)).drew := ⟨_, rfl⟩
          have h16 := ((h15.drew.setCell 0 (.slice la nl lc)).setCell 1 (.slice ra nr rc)).setCell 2 (.slice sa ns sc)
          have h17 : Sat W wf (sep (blk xr (.cells #[.slice la nl lc, .slice ra nr rc, .slice sa ns sc] 49 (0, 0))) (sep (blk x2 (.cells #[.slice la nl lc, .slice ra nr rc, .slice sa ns sc] 49 (0, 0))) (sep V (sep (kn J4) A)))) := by
            rw [hwf]; exact h16
          have H16 : Hid (Sat W wf (sep V (sep (kn J4) A)) ∧ wf.cell? ⟨xr, 0, none⟩ = some (.slice la nl lc) ∧ wf.cell? ⟨xr, 1, none⟩ = some (.slice ra nr rc) ∧ wf.cell? ⟨xr, 2, none⟩ = some (.slice sa ns sc)) := Lib.hid ⟨h17.forget.forget, h17.cell 0, h17.cell 1, h17.cell 2⟩
          have HWF := Lib.hid hwf
          have hprf : prfR J4 (.agg #[.slice la nl lc, .slice ra nr rc, .slice sa ns sc]) (rngP (lkP L) a b) := by
            refine ⟨_, _, _, rfl, ?_, ?_, ?_⟩
            · have := rHs.mono (Mem.le_trans hJ3 hJ4) hq1
              rw [hL1, HO1.out.1] at this
              exact this
            · have := rHs.mono hJ4 hq2
              rw [hR1, HO1.out.1] at this
              exact this
            · have := hq3
              rw [hS1, HO1.out.1] at this
              exact this
          have HF := Lib.hid (And.intro hprf (Mem.le_trans hJ2 (Mem.le_trans hJ3 hJ4)))
          clear htk HS h11 hL1 hR1 hS1 hnl hnr hns hJ2 hq1 h12 hJ3 hq2 h13 hJ4 hq3 h14 h15 h16 h17 hwf hprf hlt hj
          go_wp2_with fail
          refine wp_region_canon rfl (fun _ => True) [(0, .p), (1, .t), (2, .p), (3, .e false), (4, .p)] (by kernel_rfl) ?_
          have hS0 : True := trivial
          (repeat ((first | (refine C_p (v := ?_) rfl rfl (fun w' => ?_) ?_; rotate_left; (go_simp; with_reducible rfl)) | (refine C_s (v := ?_) rfl rfl hS0 (fun w' hS => ?_) ?_; rotate_left; ((try dsimp only at hS); go_simp; with_reducible rfl)) | (refine C_t (v := ?_) rfl rfl ?_ ?_; rotate_left; (go_simp; with_reducible rfl)) | (refine C_po rfl rfl ?_) | (refine C_so rfl rfl hS0 ?_) | (refine C_to rfl rfl ?_)); simp only [Act.put, List.setIfInBounds_toArray, List.set_cons_zero, List.set_cons_succ]))
          (refine C_e rfl rfl (fun K hK => ?_); go_simp)
          rw [← HWF.out]
          clear y0 y1 y2 s0 s1 s2 v0 v1 v2
          (refine hK _ _ (fun h => by cases h) ?_; clear hK K; (try simp only [Act.put, List.setIfInBounds_toArray, List.set_cons_zero, List.set_cons_succ]))
          (repeat ((first | (refine C_p (v := ?_) rfl rfl (fun w' => ?_) ?_; rotate_left; (go_simp; with_reducible rfl)) | (refine C_s (v := ?_) rfl rfl hS0 (fun w' hS => ?_) ?_; rotate_left; ((try dsimp only at hS); go_simp; with_reducible rfl)) | (refine C_t (v := ?_) rfl rfl ?_ ?_; rotate_left; (go_simp; with_reducible rfl)) | (refine C_po rfl rfl ?_) | (refine C_so rfl rfl hS0 ?_) | (refine C_to rfl rfl ?_)); simp only [Act.put, List.setIfInBounds_toArray, List.set_cons_zero, List.set_cons_succ]))
          refine C_nil ?_
          go_wp2_with fail
          refine bodyPost_ret (by simp [results, Tryd.results28, go_sem, H16.out.2.1, H16.out.2.2.1, H16.out.2.2.2]; try rfl) rfl ?_
          refine ⟨oa, m, oc, la, nl, lc, ra, nr, rc, sa, ns, sc, J4, rfl, HM.out, Mem.le_trans HPR.out.1 HF.out.2, (rPairQ.slice 2).mono HF.out.2 HPR.out.2, HF.out.1, ?_⟩
          have := H16.out.1
          simpa only [sep_comm, sep_lcomm, sep_assoc] using this
end Go.Proofs.YtcmjbjlliehdiaaDoor
