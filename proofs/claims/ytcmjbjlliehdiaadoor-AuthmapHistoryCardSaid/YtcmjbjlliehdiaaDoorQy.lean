/- The map in plain: pairs laid over a map, and deleted again; what Range returns, as known values. -/
import Derived.Test.YtcmjbjlliehdiaaDoorQx
import Derived.Test.YtcmjbjlliehdiaaDoorQt
import Derived.Test.YtcmjbjlliehdiaaDoorQu
import Derived.Test.YtcmjbjlliehdiaaDoorDp2
namespace PA
open Go
def ovr (L : PrL) (M : KVs) : KVs := fun k => match lkP L k with | some v => some v | none => M k
theorem ovr_nil (M : KVs) : ovr [] M = M := rfl
theorem ovr_some {L : PrL} {k : Int} {v : List UInt8} (M : KVs) (h : lkP L k = some v) : ovr L M k = some v := by unfold ovr; rw [h]
theorem ovr_none {L : PrL} {k : Int} (M : KVs) (h : lkP L k = none) : ovr L M k = M k := by unfold ovr; rw [h]
theorem ovr_cons (x : Int × List UInt8) (L : PrL) (M : KVs) : ovr (x :: L) M = fset (ovr L M) x.1 (some x.2) := by
  funext k
  unfold ovr fset
  rw [lkP]
  by_cases h : k = x.1
  · rw [if_pos h, if_pos h]
  · rw [if_neg h, if_neg h]
theorem fset_fset (M : KVs) (k : Int) (a b : Option (List UInt8)) : fset (fset M k a) k b = fset M k b := by
  funext j; unfold fset; split <;> rfl
theorem AscP.drop {L : PrL} (h : AscP L) (i : Nat) : AscP (L.drop i) := by
  unfold AscP at h ⊢
  rw [List.map_drop]
  exact h.drop
theorem lkP_head {E : PrL} (hE : AscP E) {i : Nat} (hi : i < E.length) : lkP (E.drop (i + 1)) E[i].1 = none := by
  have h := hE.drop i
  rw [List.drop_eq_getElem_cons hi] at h
  exact lkP_none fun y hy => by have := h.cons.1 y hy; omega
theorem ovr_del {L E : PrL} (hE : AscP E) {i : Nat} (hi : i < E.length) (hL : lkP L E[i].1 = none) :
    fset (ovr L (lkP (E.drop i))) E[i].1 none = ovr L (lkP (E.drop (i + 1))) ∧ (ovr L (lkP (E.drop i)) E[i].1).isSome = true := by
  have e := List.drop_eq_getElem_cons hi
  refine ⟨?_, ?_⟩
  · funext k
    unfold fset
    by_cases hk : k = E[i].1
    · rw [if_pos hk, hk, ovr_none _ hL, lkP_head hE hi]
    · rw [if_neg hk]
      unfold ovr
      rw [e, lkP, if_neg hk]
  · rw [ovr_none _ hL, e, lkP, if_pos rfl]; rfl
theorem ovr_skip {L E : PrL} {i : Nat} (hi : i < E.length) (hL : lkP L E[i].1 ≠ none) : ovr L (lkP (E.drop i)) = ovr L (lkP (E.drop (i + 1))) := by
  have e := List.drop_eq_getElem_cons hi
  funext k
  by_cases hk : k = E[i].1
  · obtain ⟨v, hv⟩ := Option.ne_none_iff_exists'.1 hL
    rw [hk, ovr_some _ hv, ovr_some _ hv]
  · unfold ovr
    rw [e, lkP, if_neg hk]
theorem ovr_end (L : PrL) : ovr L (lkP []) = lkP L := by
  funext k
  unfold ovr
  cases h : lkP L k with
  | some v => rfl
  | none => rfl
theorem akeys_unique {M : KVs} {l m : List Int} (h1 : AKeys M l) (h2 : AKeys M m) : l = m :=
  asc_unique h1.1 h2.1 fun k => (h1.2 k).trans (h2.2 k).symm
end PA
namespace Go.Proofs.YtcmjbjlliehdiaaDoor
open Go.RowKit PA
theorem fillM_ovr : ∀ (L : PrL) (M : KVs), AscP L → fillM M L = ovr L M
  | [], _, _ => rfl
  | x :: l, M, h => by
    have e : fillM M (x :: l) = fillM (fset M x.1 (some x.2)) l := rfl
    rw [e, fillM_ovr l _ h.cons.2, ovr_cons]
    have hn : lkP l x.1 = none := lkP_none fun y hy => by have := h.cons.1 y hy; omega
    funext k
    by_cases hk : k = x.1
    · rw [hk, ovr_none _ hn]
      simp [fset]
    · unfold ovr fset
      rw [if_neg hk, if_neg hk]
theorem fillM_lk {L : PrL} (h : AscP L) : fillM (fun _ => none) L = lkP L := by
  rw [fillM_ovr L _ h]
  funext k
  unfold ovr
  cases lkP L k <;> rfl
/-- The proof of a range. -/
def rngP (M : KVs) (a b : Int) : Prf := ⟨leftL M a (outL a b 12 0), rightL M a (outL a b 12 0), shapeL M (outL a b 12 0)⟩
theorem arange_kn {W w : World} {A : Assn} {I : Mem} (hw : WholeOK W) (p : Nat) (M : KVs) (a b : Int) (h : Sat W w (sep (isAM p M) (sep (kn I) A))) (hn : 0 ≤ a ∧ a ≤ b ∧ b ≤ 4095) :
    Calls Tryd.prog 17 #[.pointer (some ⟨p, 0, none⟩), .int .i64 a, .int .i64 b] w fun e w' => ∃ pa n pc ks la nl lc ra nr rc sa ns sc J, AKeys M ks ∧ Mem.le I J ∧
      e = .returned (.tuple #[.slice pa n pc, .agg #[.slice la nl lc, .slice ra nr rc, .slice sa ns sc], .int .i64 0]) ∧ n = (pairsL M a b ks).length ∧
      (rPairQ.slice 2).rel J [.slice pa n pc] (pairsL M a b ks) ∧ prfR J (.agg #[.slice la nl lc, .slice ra nr rc, .slice sa ns sc]) (rngP M a b) ∧ Sat W w' (sep (kn J) (sep (isAM p M) A)) := by
  refine (arange_ok hw p M a b h hn).mono ?_
  rintro e w' ⟨pa, pc, cells, ks, la, lc, ra, rc, sa, sc, J, hk, hJ, rfl, h1⟩
  have h2 := Sat.slice_of_osl (R := rPair) (xs := pairsL M a b ks) h1 rfl
  obtain ⟨J1, hJ1, hr1, h3⟩ := (show Sat W w' (sep ((rPair.slice 2).is [.slice pa (pairsL M a b ks).length pc] (pairsL M a b ks)) (sep (kn J) _)) from h2.p4.p1).learn
  obtain ⟨J2, hJ2, hr2, h4⟩ := hs_learn (show Sat W w' (sep (osl 43 1 la (leftL M a (outL a b 12 0)).length lc ((leftL M a (outL a b 12 0)).map uv)) (sep (kn J1) (sep (osl 43 1 ra (rightL M a (outL a b 12 0)).length rc ((rightL M a (outL a b 12 0)).map uv)) (sep (osl 5 1 sa (shapeL M (outL a b 12 0)).length sc ((shapeL M (outL a b 12 0)).map bv)) (sep (isAM p M) A))))) by simpa only [sep_comm, sep_lcomm, sep_assoc] using h3) rfl
  obtain ⟨J3, hJ3, hr3, h5⟩ := hs_learn (show Sat W w' (sep (osl 43 1 ra (rightL M a (outL a b 12 0)).length rc ((rightL M a (outL a b 12 0)).map uv)) (sep (kn J2) (sep (osl 5 1 sa (shapeL M (outL a b 12 0)).length sc ((shapeL M (outL a b 12 0)).map bv)) (sep (isAM p M) A)))) by simpa only [sep_comm, sep_lcomm, sep_assoc] using h4) rfl
  obtain ⟨J4, hJ4, hr4, h6⟩ := osl_learnQ (show Sat W w' (sep (osl 5 1 sa (shapeL M (outL a b 12 0)).length sc ((shapeL M (outL a b 12 0)).map bv)) (sep (kn J3) (sep (isAM p M) A))) by simpa only [sep_comm, sep_lcomm, sep_assoc] using h5) rfl
  exact ⟨pa, _, pc, ks, la, _, lc, ra, _, rc, sa, _, sc, J4, hk, Mem.le_trans hJ (Mem.le_trans hJ1 (Mem.le_trans hJ2 (Mem.le_trans hJ3 hJ4))), rfl, rfl, (rPairQ.slice 2).mono (Mem.le_trans hJ2 (Mem.le_trans hJ3 hJ4)) hr1,
    ⟨_, _, _, rfl, rHs.mono (Mem.le_trans hJ3 hJ4) hr2, rHs.mono hJ4 hr3, hr4⟩, h6⟩
end Go.Proofs.YtcmjbjlliehdiaaDoor
