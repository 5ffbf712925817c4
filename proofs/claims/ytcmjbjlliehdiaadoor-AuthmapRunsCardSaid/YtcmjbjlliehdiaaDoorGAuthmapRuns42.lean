/- The map in plain: pairs laid over a map, and deleted again; what Range returns, as known values. -/
import Derived.Test.YtcmjbjlliehdiaaDoorGAuthmapRunsSQx
import Derived.Test.YtcmjbjlliehdiaaDoorGAuthmapRunsSQt
import Derived.Test.YtcmjbjlliehdiaaDoorGAuthmapRuns40
import Derived.Test.YtcmjbjlliehdiaaDoorGAuthmapRunsSDp2
import Derived.Test.YtcmjbjlliehdiaaDoorUtil
import Derived.Test.YtcmjbjlliehdiaaDoorAr
namespace PA
open Go
def ovr (L : PrL) (M : KVs) : KVs := fun k => match lkP L k with | some v => some v | none => M k
theorem ovr_nil (M : KVs) : ovr [] M = M := rfl
theorem ovr_some {L : PrL} {k : Int} {v : List UInt8} (M : KVs) (h : lkP L k = some v) : ovr L M k = some v := by unfold ovr; rw [h]
theorem ovr_none {L : PrL} {k : Int} (M : KVs) (h : lkP L k = none) : ovr L M k = M k := by unfold ovr; rw [h]
theorem ovr_cons (x : Int × List UInt8) (L : PrL) (M : KVs) : ovr (x :: L) M = fset (ovr L M) x.1 (some x.2) := by
  funext k
  unfold ovr fset
  rw [lkP]
  by_cases h : k = x.1
  · rw [if_pos h, if_pos h]
  · rw [if_neg h, if_neg h]
theorem fset_fset (M : KVs) (k : Int) (a b : Option (List UInt8)) : fset (fset M k a) k b = fset M k b := by
  funext j; unfold fset; split <;> rfl
theorem AscP.drop {L : PrL} (h : AscP L) (i : Nat) : AscP (L.drop i) := by
  unfold AscP at h ⊢
  rw [List.map_drop]
  exact h.drop
theorem lkP_head {E : PrL} (hE : AscP E) {i : Nat} (hi : i < E.length) : lkP (E.drop (i + 1)) E[i].1 = none := by
  have h := hE.drop i
  rw [List.drop_eq_getElem_cons hi] at h
  exact lkP_none fun y hy => by have := h.cons.1 y hy; omega
theorem ovr_del {L E : PrL} (hE : AscP E) {i : Nat} (hi : i < E.length) (hL : lkP L E[i].1 = none) :
    fset (ovr L (lkP (E.drop i))) E[i].1 none = ovr L (lkP (E.drop (i + 1))) ∧ (ovr L (lkP (E.drop i)) E[i].1).isSome = true := by
  have e := List.drop_eq_getElem_cons hi
  refine ⟨?_, ?_⟩
  · funext k
    unfold fset
    by_cases hk : k = E[i].1
    · rw [if_pos hk, hk, ovr_none _ hL, lkP_head hE hi]
    · rw [if_neg hk]
      unfold ovr
      rw [e, lkP, if_neg hk]
  · rw [ovr_none _ hL, e, lkP, if_pos rfl]; rfl
theorem ovr_skip {L E : PrL} {i : Nat} (hi : i < E.length) (hL : lkP L E[i].1 ≠ none) : ovr L (lkP (E.drop i)) = ovr L (lkP (E.drop (i + 1))) := by
  have e := List.drop_eq_getElem_cons hi
  funext k
  by_cases hk : k = E[i].1
  · obtain ⟨v, hv⟩ := Option.ne_none_iff_exists'.1 hL
    rw [hk, ovr_some _ hv, ovr_some _ hv]
  · unfold ovr
    rw [e, lkP, if_neg hk]
theorem ovr_end (L : PrL) : ovr L (lkP []) = lkP L := by
  funext k
  unfold ovr
  cases h : lkP L k with
  | some v => rfl
  | none => rfl
theorem akeys_unique {M : KVs} {l m : List Int} (h1 : AKeys M l) (h2 : AKeys M m) : l = m :=
  asc_unique h1.1 h2.1 fun k => (h1.2 k).trans (h2.2 k).symm
end PA
namespace Go.Proofs.YtcmjbjlliehdiaaDoor
open Go.RowKit PA
theorem fillM_ovr : ∀ (L : PrL) (M : KVs), AscP L → fillM M L = ovr L M
  | [], _, _ => rfl
  | x :: l, M, h => by
    have e : fillM M (x :: l) = fillM (fset M x.1 (some x.2)) l := rfl
    rw [e, fillM_ovr l _ h.cons.2, ovr_cons]
    have hn : lkP l x.1 = none := lkP_none fun y hy => by have := h.cons.1 y hy; omega
    funext k
    by_cases hk : k = x.1
    · rw [hk, ovr_none _ hn]
      simp [fset]
    · unfold ovr fset
      rw [if_neg hk, if_neg hk]
theorem fillM_lk {L : PrL} (h : AscP L) : fillM (fun _ => none) L = lkP L := by
  rw [fillM_ovr L _ h]
  funext k
  unfold ovr
  cases lkP L k <;> rfl
/-- The proof of a range. -/
def rngP (M : KVs) (a b : Int) : Prf := ⟨leftL M a (outL a b 12 0), rightL M a (outL a b 12 0), shapeL M (outL a b 12 0)⟩
theorem arange_kn {W w : World} {A : Assn} {I : Mem} (hw : WholeOK W) (p : Nat) (M : KVs) (a b : Int) (h : Sat W w (sep (isAM p M) (sep (kn I) A))) (hn : 0 ≤ a ∧ a ≤ b ∧ b ≤ 4095) :
    Calls Tryd.prog 17 #[.pointer (some ⟨p, 0, none⟩), .int .i64 a, .int .i64 b] w fun e w' => ∃ pa n pc ks la nl lc ra nr rc sa ns sc J, AKeys M ks ∧ Mem.le I J ∧
      e = .returned (.tuple #[.slice pa n pc, .agg #[.slice la nl lc, .slice ra nr rc, .slice sa ns sc], .int .i64 0]) ∧ n = (pairsL M a b ks).length ∧
      (rPairQ.slice 2).rel J [.slice pa n pc] (pairsL M a b ks) ∧ prfR J (.agg #[.slice la nl lc, .slice ra nr rc, .slice sa ns sc]) (rngP M a b) ∧ Sat W w' (sep (kn J) (sep (isAM p M) A)) := by
  refine (arange_ok hw p M a b h hn).mono ?_
  rintro e w' ⟨pa, pc, cells, ks, la, lc, ra, rc, sa, sc, J, hk, hJ, rfl, h1⟩
  have h2 := Sat.slice_of_osl (R := rPair) (xs := pairsL M a b ks) h1 rfl
  obtain ⟨J1, hJ1, hr1, h3⟩ := (show Sat W w' (sep ((rPair.slice 2).is [.slice pa (pairsL M a b ks).length pc] (pairsL M a b ks)) (sep (kn J) _)) from h2.p4.p1).learn
  obtain ⟨J2, hJ2, hr2, h4⟩ := hs_learn (show Sat W w' (sep (osl 43 1 la (leftL M a (outL a b 12 0)).length lc ((leftL M a (outL a b 12 0)).map uv)) (sep (kn J1) (sep (osl 43 1 ra (rightL M a (outL a b 12 0)).length rc ((rightL M a (outL a b 12 0)).map uv)) (sep (osl 5 1 sa (shapeL M (outL a b 12 0)).length sc ((shapeL M (outL a b 12 0)).map bv)) (sep (isAM p M) A))))) by simpa only [sep_comm, sep_lcomm, sep_assoc] using h3) rfl
  obtain ⟨J3, hJ3, hr3, h5⟩ := hs_learn (show Sat W w' (sep (osl 43 1 ra (rightL M a (outL a b 12 0)).length rc ((rightL M a (outL a b 12 0)).map uv)) (sep (kn J2) (sep (osl 5 1 sa (shapeL M (outL a b 12 0)).length sc ((shapeL M (outL a b 12 0)).map bv)) (sep (isAM p M) A)))) by simpa only [sep_comm, sep_lcomm, sep_assoc] using h4) rfl
  obtain ⟨J4, hJ4, hr4, h6⟩ := osl_learnQ (show Sat W w' (sep (osl 5 1 sa (shapeL M (outL a b 12 0)).length sc ((shapeL M (outL a b 12 0)).map bv)) (sep (kn J3) (sep (isAM p M) A))) by simpa only [sep_comm, sep_lcomm, sep_assoc] using h5) rfl
  exact ⟨pa, _, pc, ks, la, _, lc, ra, _, rc, sa, _, sc, J4, hk, Mem.le_trans hJ (Mem.le_trans hJ1 (Mem.le_trans hJ2 (Mem.le_trans hJ3 hJ4))), rfl, rfl, (rPairQ.slice 2).mono (Mem.le_trans hJ2 (Mem.le_trans hJ3 hJ4)) hr1,
    ⟨_, _, _, rfl, rHs.mono (Mem.le_trans hJ3 hJ4) hr2, rHs.mono hJ4 hr3, hr4⟩, h6⟩
theorem slice_formQ {α : Type} {R : Rep α} {k : Nat} {I : Mem} {v : Value} {xs : List α} (h : (R.slice k).rel I [v] xs) : ∃ a c, v = .slice a xs.length c ∧ Swf a xs.length c := by
  obtain ⟨a, c, cells, e, hw, -, -⟩ := h
  cases e
  exact ⟨a, c, rfl, hw⟩
theorem pair_ext {I : Mem} {a : Option Addr} {n c : Nat} {l : List (Int × List UInt8)} (h : (rPairQ.slice 2).rel I [.slice a n c] l) (i : Nat) (hi : i < l.length) :
    ∃ b o va vc, a = some ⟨b, o, none⟩ ∧ (∀ w, Ext I w → w.cell? ⟨b, o + i * 2, none⟩ = some (.int .i64 l[i].1) ∧ w.cell? ⟨b, o + i * 2 + 1, none⟩ = some (.slice va l[i].2.length vc)) ∧ rBytes.rel I [.slice va l[i].2.length vc] l[i].2 := by
  obtain ⟨a', c', cells, e, hw, hc, css, rfl, hall⟩ := h
  simp only [List.cons.injEq, Value.slice.injEq, and_true] at e
  obtain ⟨rfl, rfl, rfl⟩ := e
  have hl := hall.length
  have hi' : i < css.length := by omega
  obtain ⟨hr, hk⟩ := hall.get i hi' hi
  obtain ⟨va, vc, hcs, hrv⟩ := hr
  have f0 := flatten_get (k := 2) css (fun c hc => (hall.mem c hc).choose_spec.2) i hi' 0 (by omega)
  have f1 := flatten_get (k := 2) css (fun c hc => (hall.mem c hc).choose_spec.2) i hi' 1 (by omega)
  rw [hcs] at f0 f1
  obtain ⟨b, o, e, h2⟩ := cells_ext hc (fun e => by rw [e] at f0; simp at f0)
  exact ⟨b, o, va, vc, e, fun w he => ⟨h2 w he _ _ f0, h2 w he _ _ f1⟩, hrv⟩
/-- Made, its map given up. -/
theorem made_kn {W w : World} {A : Assn} {I : Mem} (a : Option Addr) (n c : Nat) (N : List Int) (m : Nat) (hm : m ≤ 100) (hn : n = N.length) (h64 : ∀ x ∈ N, -9223372036854775808 ≤ x ∧ x ≤ 9223372036854775807)
    (hv : (rInt.slice 1).rel I [.slice a n c] N) (h : Sat W w (sep (kn I) A)) :
    Calls Tryd.prog 11 #[.slice a n c, .int .i64 (m : Nat)] w fun e w' => ∃ q J pa pc L, e = .returned (.pointer (some ⟨q, 0, none⟩)) ∧ L = madeP N (min (n / 2) m) ∧ AscP L ∧ L.length ≤ m ∧ (∀ x ∈ L, (0 ≤ x.1 ∧ x.1 ≤ 4095) ∧ x.2.length ≤ 5) ∧ Mem.le I J ∧ qmR J q L ∧ (rPairQ.slice 2).rel J [.slice pa L.length pc] L ∧
      (∀ w, Ext J w → w.cell? ⟨q, 0, none⟩ = some (.slice pa L.length pc)) ∧ Sat W w' (sep (kn J) A) := by
  refine (qmade_spec a n c N m hm hn h64 hv h).mono ?_
  rintro e w' ⟨q, rfl, h1⟩
  obtain ⟨g1, g2, g3⟩ := madeP_ok N (min (n / 2) m)
  obtain ⟨J, hJ, hq, h2⟩ := qm_settle h1
  obtain ⟨pa, pc, e1, e2⟩ := id hq
  exact ⟨q, J, pa, pc, _, rfl, rfl, g1, by omega, g3, hJ, hq, e2, fun w he => cell_of_row w q 0 _ _ _ (he _ _ e1), h2⟩
theorem filled_lk {W w : World} {A : Assn} {I : Mem} (hw : WholeOK W) (a : Option Addr) (n c : Nat) (L : PrL) (h : Sat W w (sep (kn I) A)) (hv : (rPairQ.slice 2).rel I [.slice a n c] L) (hn : n = L.length) (hn9 : n ≤ 1000) (ha : AscP L)
    (hl : ∀ x ∈ L, (0 ≤ x.1 ∧ x.1 ≤ 4095) ∧ x.2.length ≤ 5) :
    Calls Tryd.prog 12 #[.slice a n c] w fun e w' => ∃ p, e = .returned (.pointer (some ⟨p, 0, none⟩)) ∧ Sat W w' (sep (isAM p (lkP L)) (sep (kn I) A)) := by
  have := filled_spec hw a n c L h hv hn (by omega) (fun x hx => ⟨(hl x hx).1, by have := (hl x hx).2; omega⟩)
  rw [fillM_lk ha] at this
  exact this
theorem nodup_sub_len : ∀ (l m : List Int), l.Nodup → (∀ k ∈ l, k ∈ m) → l.length ≤ m.length
  | [], _, _, _ => Nat.zero_le _
  | x :: l, m, hn, h => by
    have hx := (List.nodup_cons.1 hn)
    have hm : x ∈ m := h x (by simp)
    have ih := nodup_sub_len l (m.erase x) hx.2 fun k hk => by
      have hne : k ≠ x := fun e => hx.1 (by rw [← e]; exact hk)
      exact (List.mem_erase_of_ne hne).2 (h k (by simp [hk]))
    rw [List.length_erase_of_mem hm] at ih
    have : 0 < m.length := List.length_pos_of_mem hm
    simp only [List.length_cons]
    omega
theorem akeys_len {L : PrL} (_hL : AscP L) {ks : List Int} (h : AKeys (lkP L) ks) : ks.length ≤ L.length := by
  have hm : ∀ (L : PrL) (k : Int), (lkP L k).isSome = true → k ∈ L.map (·.1) := by
    intro L
    induction L with
    | nil => intro k h; cases h
    | cons x l ih =>
      intro k h
      rw [lkP] at h
      by_cases e : k = x.1
      · rw [e]; simp
      · rw [if_neg e] at h
        simp [ih k h]
  have hnd : ks.Nodup := h.1.imp fun h => by omega
  have hsub : ∀ k ∈ ks, k ∈ L.map (·.1) := fun k hk => hm L k ((h.2 k).1 hk)
  have := nodup_sub_len ks (L.map (·.1)) hnd hsub
  simpa using this
end Go.Proofs.YtcmjbjlliehdiaaDoor
/- Literals of bytes and of other one-cell elements. -/
namespace Go.Proofs.YtcmjbjlliehdiaaDoor
open Go.RowKit PA
theorem litB {W w : World} {A : Assn} {I : Mem} (h : Sat W w (sep (kn I) A)) (bs : List UInt8) (t : TypeId) (hb : bs.length ≤ maxLen) :
    ∃ J, Mem.le I J ∧ rBytes.rel J [.slice (some ⟨w.heap.size, 0, none⟩) bs.length bs.length] bs ∧ Sat W (w.alloc (.cells (bs.map bv).toArray t)) (sep (kn J) A) := by
  obtain ⟨J, h1, h2, h3⟩ := (h.bytes_of_alloc bs t (0, 0) hb).learn
  exact ⟨J, h1, h2, h3⟩
theorem litI {W w : World} {A : Assn} {I : Mem} (h : Sat W w (sep (kn I) A)) (ns : List Int) (t : TypeId) (hb : ns.length ≤ maxLen) :
    ∃ J, Mem.le I J ∧ (rInt.slice 1).rel J [.slice (some ⟨w.heap.size, 0, none⟩) ns.length ns.length] ns ∧ Sat W (w.alloc (.cells (ns.map iv).toArray t)) (sep (kn J) A) := by
  have h1 := (h.alloc (.cells (ns.map iv).toArray t)).settle
  obtain ⟨J, hle, hp, h2⟩ := (show Sat W _ (sep (imm w.heap.size (.cells (ns.map iv).toArray t)) (sep (kn I) A)) from h1).learn
  refine ⟨J, hle, ints_rel.2 ⟨_, _, rfl, ⟨Nat.le_refl _, hb, fun h => by cases h⟩, .inr ⟨w.heap.size, 0, _, t, (0, 0), rfl, hp, fun i u hu => by simpa using hu⟩⟩, h2⟩
theorem litO {W w : World} {A : Assn} {E : Nat} (h : Sat W w A) (xs : List Value) (n : Nat) (hn : n = xs.length) (hl : n ≤ maxLen) : Sat W (w.alloc (.cells xs.toArray E)) (sep (osl E 1 (some ⟨w.heap.size, 0, none⟩) n n xs) A) := by
  subst hn
  exact (h.alloc (.cells xs.toArray E)).osl_mk xs.length xs.length 1 xs (by simp) (Nat.le_refl _) hl (by simp) (by simp)
theorem nilB (I : Mem) : rBytes.rel I [.slice none 0 0] [] := bytes_rel.2 ⟨none, 0, rfl, ⟨Nat.le_refl _, Nat.zero_le _, fun _ => rfl⟩, .inl rfl⟩
theorem nilI (I : Mem) : (rInt.slice 1).rel I [.slice none 0 0] [] := ints_rel.2 ⟨none, 0, rfl, ⟨Nat.le_refl _, Nat.zero_le _, fun _ => rfl⟩, .inl rfl⟩
end Go.Proofs.YtcmjbjlliehdiaaDoor
