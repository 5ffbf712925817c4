/- The map in plain: pairs laid over a map, and deleted again; what Range returns, as known values. -/
import Derived.Test.YtcmjbjlliehdiaaDoorGAuthmapSound24
import Derived.Test.YtcmjbjlliehdiaaDoorGAuthmapSound25
namespace PA
open Go
def ovr (L : PrL) (M : KVs) : KVs := fun k => match lkP L k with | some v => some v | none => M k
theorem ovr_nil (M : KVs) : ovr [] M = M := rfl
theorem ovr_some {L : PrL} {k : Int} {v : List UInt8} (M : KVs) (h : lkP L k = some v) : ovr L M k = some v := by unfold ovr; rw [h]
theorem ovr_none {L : PrL} {k : Int} (M : KVs) (h : lkP L k = none) : ovr L M k = M k := by unfold ovr; rw [h]
theorem ovr_cons (x : Int × List UInt8) (L : PrL) (M : KVs) : ovr (x :: L) M = fset (ovr L M) x.1 (some x.2) := by
  funext k
  unfold ovr fset
  rw [lkP]
  by_cases h : k = x.1
  · rw [if_pos h, if_pos h]
  · rw [if_neg h, if_neg h]
theorem fset_fset (M : KVs) (k : Int) (a b : Option (List UInt8)) : fset (fset M k a) k b = fset M k b := by
  funext j; unfold fset; split <;> rfl
theorem AscP.drop {L : PrL} (h : AscP L) (i : Nat) : AscP (L.drop i) := by
  unfold AscP at h ⊢
  rw [List.map_drop]
  exact h.drop
theorem lkP_head {E : PrL} (hE : AscP E) {i : Nat} (hi : i < E.length) : lkP (E.drop (i + 1)) E[i].1 = none := by
  have h := hE.drop i
  rw [List.drop_eq_getElem_cons hi] at h
  exact lkP_none fun y hy => by have := h.cons.1 y hy; omega
theorem ovr_del {L E : PrL} (hE : AscP E) {i : Nat} (hi : i < E.length) (hL : lkP L E[i].1 = none) :
    fset (ovr L (lkP (E.drop i))) E[i].1 none = ovr L (lkP (E.drop (i + 1))) ∧ (ovr L (lkP (E.drop i)) E[i].1).isSome = true := by
  have e := List.drop_eq_getElem_cons hi
  refine ⟨?_, ?_⟩
  · funext k
    unfold fset
    by_cases hk : k = E[i].1
    · rw [if_pos hk, hk, ovr_none _ hL, lkP_head hE hi]
    · rw [if_neg hk]
      unfold ovr
      rw [e, lkP, if_neg hk]
  · rw [ovr_none _ hL, e, lkP, if_pos rfl]; rfl
theorem ovr_skip {L E : PrL} {i : Nat} (hi : i < E.length) (hL : lkP L E[i].1 ≠ none) : ovr L (lkP (E.drop i)) = ovr L (lkP (E.drop (i + 1))) := by
  have e := List.drop_eq_getElem_cons hi
  funext k
  by_cases hk : k = E[i].1
  · obtain ⟨v, hv⟩ := Option.ne_none_iff_exists'.1 hL
    rw [hk, ovr_some _ hv, ovr_some _ hv]
  · unfold ovr
    rw [e, lkP, if_neg hk]
theorem ovr_end (L : PrL) : ovr L (lkP []) = lkP L := by
  funext k
  unfold ovr
  cases h : lkP L k with
  | some v => rfl
  | none => rfl
theorem akeys_unique {M : KVs} {l m : List Int} (h1 : AKeys M l) (h2 : AKeys M m) : l = m :=
  asc_unique h1.1 h2.1 fun k => (h1.2 k).trans (h2.2 k).symm
end PA
namespace Go.Proofs.YtcmjbjlliehdiaaDoor
open Go.RowKit PA
theorem fillM_ovr : ∀ (L : PrL) (M : KVs), AscP L → fillM M L = ovr L M
  | [], _, _ => rfl
  | x :: l, M, h => by
    have e : fillM M (x :: l) = fillM (fset M x.1 (some x.2)) l := rfl
    rw [e, fillM_ovr l _ h.cons.2, ovr_cons]
    have hn : lkP l x.1 = none := lkP_none fun y hy => by have := h.cons.1 y hy; omega
    funext k
    by_cases hk : k = x.1
    · rw [hk, ovr_none _ hn]
      simp [fset]
    · unfold ovr fset
      rw [if_neg hk, if_neg hk]
theorem fillM_lk {L : PrL} (h : AscP L) : fillM (fun _ => none) L = lkP L := by
  rw [fillM_ovr L _ h]
  funext k
  unfold ovr
  cases lkP L k <;> rfl
/-- The proof of a range. -/
def rngP (M : KVs) (a b : Int) : Prf := ⟨leftL M a (outL a b 12 0), rightL M a (outL a b 12 0), shapeL M (outL a b 12 0)⟩
theorem arange_kn {W w : World} {A : Assn} {I : Mem} (hw : WholeOK W) (p : Nat) (M : KVs) (a b : Int) (h : Sat W w (sep (isAM p M) (sep (kn I) A))) (hn : 0 ≤ a ∧ a ≤ b ∧ b ≤ 4095) :
    Calls Tryd.prog 17 #[.pointer (some ⟨p, 0, none⟩), .int .i64 a, .int .i64 b] w fun e w' => ∃ pa n pc ks la nl lc ra nr rc sa ns sc J, AKeys M ks ∧ Mem.le I J ∧
      e = .returned (.tuple #[.slice pa n pc, .agg #[.slice la nl lc, .slice ra nr rc, .slice sa ns sc], .int .i64 0]) ∧ n = (pairsL M a b ks).length ∧
      (rPairQ.slice 2).rel J [.slice pa n pc] (pairsL M a b ks) ∧ prfR J (.agg #[.slice la nl lc, .slice ra nr rc, .slice sa ns sc]) (rngP M a b) ∧ Sat W w' (sep (kn J) (sep (isAM p M) A)) := by
  refine (arange_ok hw p M a b h hn).mono ?_
  rintro e w' ⟨pa, pc, cells, ks, la, lc, ra, rc, sa, sc, J, hk, hJ, rfl, h1⟩
  have h2 := Sat.slice_of_osl (R := rPair) (xs := pairsL M a b ks) h1 rfl
  obtain ⟨J1, hJ1, hr1, h3⟩ := (show Sat W w' (sep ((rPair.slice 2).is [.slice pa (pairsL M a b ks).length pc] (pairsL M a b ks)) (sep (kn J) _)) from h2.p4.p1).learn
  obtain ⟨J2, hJ2, hr2, h4⟩ := hs_learn (show Sat W w' (sep (osl 43 1 la (leftL M a (outL a b 12 0)).length lc ((leftL M a (outL a b 12 0)).map uv)) (sep (kn J1) (sep (osl 43 1 ra (rightL M a (outL a b 12 0)).length rc ((rightL M a (outL a b 12 0)).map uv)) (sep (osl 5 1 sa (shapeL M (outL a b 12 0)).length sc ((shapeL M (outL a b 12 0)).map bv)) (sep (isAM p M) A))))) by simpa only [sep_comm, sep_lcomm, sep_assoc] using h3) rfl
  obtain ⟨J3, hJ3, hr3, h5⟩ := hs_learn (show Sat W w' (sep (osl 43 1 ra (rightL M a (outL a b 12 0)).length rc ((rightL M a (outL a b 12 0)).map uv)) (sep (kn J2) (sep (osl 5 1 sa (shapeL M (outL a b 12 0)).length sc ((shapeL M (outL a b 12 0)).map bv)) (sep (isAM p M) A)))) by simpa only [sep_comm, sep_lcomm, sep_assoc] using h4) rfl
  obtain ⟨J4, hJ4, hr4, h6⟩ := osl_learnQ (show Sat W w' (sep (osl 5 1 sa (shapeL M (outL a b 12 0)).length sc ((shapeL M (outL a b 12 0)).map bv)) (sep (kn J3) (sep (isAM p M) A))) by simpa only [sep_comm, sep_lcomm, sep_assoc] using h5) rfl
  exact ⟨pa, _, pc, ks, la, _, lc, ra, _, rc, sa, _, sc, J4, hk, Mem.le_trans hJ (Mem.le_trans hJ1 (Mem.le_trans hJ2 (Mem.le_trans hJ3 hJ4))), rfl, rfl, (rPairQ.slice 2).mono (Mem.le_trans hJ2 (Mem.le_trans hJ3 hJ4)) hr1,
    ⟨_, _, _, rfl, rHs.mono (Mem.le_trans hJ3 hJ4) hr2, rHs.mono hJ4 hr3, hr4⟩, h6⟩
theorem slice_formQ {α : Type} {R : Rep α} {k : Nat} {I : Mem} {v : Value} {xs : List α} (h : (R.slice k).rel I [v] xs) : ∃ a c, v = .slice a xs.length c ∧ Swf a xs.length c := by
  obtain ⟨a, c, cells, e, hw, -, -⟩ := h
  cases e
  exact ⟨a, c, rfl, hw⟩
theorem pair_ext {I : Mem} {a : Option Addr} {n c : Nat} {l : List (Int × List UInt8)} (h : (rPairQ.slice 2).rel I [.slice a n c] l) (i : Nat) (hi : i < l.length) :
    ∃ b o va vc, a = some ⟨b, o, none⟩ ∧ (∀ w, Ext I w → w.cell? ⟨b, o + i * 2, none⟩ = some (.int .i64 l[i].1) ∧ w.cell? ⟨b, o + i * 2 + 1, none⟩ = some (.slice va l[i].2.length vc)) ∧ rBytes.rel I [.slice va l[i].2.length vc] l[i].2 := by
  obtain ⟨a', c', cells, e, hw, hc, css, rfl, hall⟩ := h
  simp only [List.cons.injEq, Value.slice.injEq, and_true] at e
  obtain ⟨rfl, rfl, rfl⟩ := e
  have hl := hall.length
  have hi' : i < css.length := by omega
  obtain ⟨hr, hk⟩ := hall.get i hi' hi
  obtain ⟨va, vc, hcs, hrv⟩ := hr
  have f0 := flatten_get (k := 2) css (fun c hc => (hall.mem c hc).choose_spec.2) i hi' 0 (by omega)
  have f1 := flatten_get (k := 2) css (fun c hc => (hall.mem c hc).choose_spec.2) i hi' 1 (by omega)
  rw [hcs] at f0 f1
  obtain ⟨b, o, e, h2⟩ := cells_ext hc (fun e => by rw [e] at f0; simp at f0)
  exact ⟨b, o, va, vc, e, fun w he => ⟨h2 w he _ _ f0, h2 w he _ _ f1⟩, hrv⟩
/-- Made, its map given up. -/
theorem made_kn {W w : World} {A : Assn} {I : Mem} (a : Option Addr) (n c : Nat) (N : List Int) (m : Nat) (hm : m ≤ 100) (hn : n = N.length) (h64 : ∀ x ∈ N, -9223372036854775808 ≤ x ∧ x ≤ 9223372036854775807)
    (hv : (rInt.slice 1).rel I [.slice a n c] N) (h : Sat W w (sep (kn I) A)) :
    Calls Tryd.prog 11 #[.slice a n c, .int .i64 (m : Nat)] w fun e w' => ∃ q J pa pc L, e = .returned (.pointer (some ⟨q, 0, none⟩)) ∧ L = madeP N (min (n / 2) m) ∧ AscP L ∧ L.length ≤ m ∧ (∀ x ∈ L, (0 ≤ x.1 ∧ x.1 ≤ 4095) ∧ x.2.length ≤ 5) ∧ Mem.le I J ∧ qmR J q L ∧ (rPairQ.slice 2).rel J [.slice pa L.length pc] L ∧
      (∀ w, Ext J w → w.cell? ⟨q, 0, none⟩ = some (.slice pa L.length pc)) ∧ Sat W w' (sep (kn J) A) := by
  refine (qmade_spec a n c N m hm hn h64 hv h).mono ?_
  rintro e w' ⟨q, rfl, h1⟩
  obtain ⟨g1, g2, g3⟩ := madeP_ok N (min (n / 2) m)
  obtain ⟨J, hJ, hq, h2⟩ := qm_settle h1
  obtain ⟨pa, pc, e1, e2⟩ := id hq
  exact ⟨q, J, pa, pc, _, rfl, rfl, g1, by omega, g3, hJ, hq, e2, fun w he => cell_of_row w q 0 _ _ _ (he _ _ e1), h2⟩
theorem filled_lk {W w : World} {A : Assn} {I : Mem} (hw : WholeOK W) (a : Option Addr) (n c : Nat) (L : PrL) (h : Sat W w (sep (kn I) A)) (hv : (rPairQ.slice 2).rel I [.slice a n c] L) (hn : n = L.length) (hn9 : n ≤ 1000) (ha : AscP L)
    (hl : ∀ x ∈ L, (0 ≤ x.1 ∧ x.1 ≤ 4095) ∧ x.2.length ≤ 5) :
    Calls Tryd.prog 12 #[.slice a n c] w fun e w' => ∃ p, e = .returned (.pointer (some ⟨p, 0, none⟩)) ∧ Sat W w' (sep (isAM p (lkP L)) (sep (kn I) A)) := by
  have := filled_spec hw a n c L h hv hn (by omega) (fun x hx => ⟨(hl x hx).1, by have := (hl x hx).2; omega⟩)
  rw [fillM_lk ha] at this
  exact this
theorem nodup_sub_len : ∀ (l m : List Int), l.Nodup → (∀ k ∈ l, k ∈ m) → l.length ≤ m.length
  | [], _, _, _ => Nat.zero_le _
  | x :: l, m, hn, h => by
    have hx := (List.nodup_cons.1 hn)
    have hm : x ∈ m := h x (by simp)
    have ih := nodup_sub_len l (m.erase x) hx.2 fun k hk => by
      have hne : k ≠ x := fun e => hx.1 (by rw [← e]; exact hk)
      exact (List.mem_erase_of_ne hne).2 (h k (by simp [hk]))
    rw [List.length_erase_of_mem hm] at ih
    have : 0 < m.length := List.length_pos_of_mem hm
    simp only [List.length_cons]
    omega
theorem akeys_len {L : PrL} (_hL : AscP L) {ks : List Int} (h : AKeys (lkP L) ks) : ks.length ≤ L.length := by
  have hm : ∀ (L : PrL) (k : Int), (lkP L k).isSome = true → k ∈ L.map (·.1) := by
    intro L
    induction L with
    | nil => intro k h; cases h
    | cons x l ih =>
      intro k h
      rw [lkP] at h
      by_cases e : k = x.1
      · rw [e]; simp
      · rw [if_neg e] at h
        simp [ih k h]
  have hnd : ks.Nodup := h.1.imp fun h => by omega
  have hsub : ∀ k ∈ ks, k ∈ L.map (·.1) := fun k hk => hm L k ((h.2 k).1 hk)
  have := nodup_sub_len ks (L.map (·.1)) hnd hsub
  simpa using this
end Go.Proofs.YtcmjbjlliehdiaaDoor
/- known and Check in plain: the hashes of blocks that a proof makes known, and what follows from them. No program in sight. -/
namespace Go.Proofs.YtcmjbjlliehdiaaDoor
open Go Go.RowKit PA
/-- The blocks whose hashes are known: none: it has no pairs. -/
abbrev KMap := Nat × Int → Option (Option Nat)
def kset (K : KMap) (x : Nat × Int) (v : Option Nat) : KMap := fun y => if y = x then some v else K y
structure KSt where
  i : Nat
  K : KMap
  l : List Nat
  r : List Nat
def stepK (b : Int) (s : List UInt8) (x : Nat × Int) (t : KSt) : Option KSt :=
  match s[t.i]? with
  | none => none
  | some c => if 1 < c then none else if c = 1 then
      (if b < bFirst x then (match t.r with | [] => none | h :: r => some ⟨t.i + 1, kset t.K x (some h), t.l, r⟩)
       else (match t.l with | [] => none | h :: l => some ⟨t.i + 1, kset t.K x (some h), l, t.r⟩))
    else some ⟨t.i + 1, kset t.K x none, t.l, t.r⟩
def knF (b : Int) (s : List UInt8) (t0 : KSt) (xs : List (Nat × Int)) : Option KSt := xs.foldl (fun o x => o.bind (stepK b s x)) (some t0)
theorem knF_nil (b : Int) (s : List UInt8) (t0 : KSt) : knF b s t0 [] = some t0 := rfl
theorem knF_snoc (b : Int) (s : List UInt8) (t0 : KSt) (xs : List (Nat × Int)) (x : Nat × Int) : knF b s t0 (xs ++ [x]) = (knF b s t0 xs).bind (stepK b s x) := by simp [knF, List.foldl_append]
theorem knF_none {b : Int} {s : List UInt8} : ∀ (xs : List (Nat × Int)), xs.foldl (fun o x => o.bind (stepK b s x)) none = none
  | [] => rfl
  | _ :: xs => knF_none xs
theorem knF_stop {b : Int} {s : List UInt8} {t0 : KSt} {xs : List (Nat × Int)} (ys : List (Nat × Int)) (h : knF b s t0 xs = none) : knF b s t0 (xs ++ ys) = none := by
  unfold knF at *
  rw [List.foldl_append, h]
  exact knF_none ys
/-- The pairs of the range. -/
def knE (K : KMap) (ps : List (Int × List UInt8)) : KMap := ps.foldl (fun K x => kset K (0, x.1) (some (leafN x.1 x.2))) K
theorem knE_snoc (K : KMap) (ps : List (Int × List UInt8)) (x : Int × List UInt8) : knE K (ps ++ [x]) = kset (knE K ps) (0, x.1) (some (leafN x.1 x.2)) := by simp [knE, List.foldl_append]
/-- The hash of a block, from those that are known. -/
def compP (K : KMap) : Nat → Int → Option Nat
  | 0, n => (K (0, n)).getD none
  | l + 1, n => match K (l + 1, n) with | some h => h | none => joinN (compP K l (2 * n)) (compP K l (2 * n + 1))
def wrongP (a b : Int) : List (Int × List UInt8) → Option Int → Bool
  | [], _ => false
  | x :: l, o => decide (x.1 < a) || decide (b < x.1) || (match o with | none => false | some k => decide (x.1 ≤ k)) || decide (65536 < x.2.length) || wrongP a b l (some x.1)
/-- What known says: none: the proof has another form. -/
def formP (a b : Int) (ps : List (Int × List UInt8)) (p : Prf) : Option KMap :=
  match knF b p.s ⟨0, fun _ => none, p.l, p.r⟩ (outL a b 12 0) with
  | none => none
  | some t => if t.i = p.s.length ∧ t.l = [] ∧ t.r = [] then some (knE t.K ps) else none
def checkP (root : Nat) (a b : Int) (ps : List (Int × List UInt8)) (p : Prf) : Int :=
  if ¬ (0 ≤ a ∧ a ≤ b ∧ b ≤ 4095) then 5 else if wrongP a b ps none = true then 1 else
    match formP a b ps p with
    | none => 2
    | some K => if (compP K 12 0).getD 0 = root then 0 else 10
theorem compP_lt {K : KMap} (hK : ∀ x h, K x = some (some h) → h < 18446744073709551616) : ∀ (l : Nat) (n : Int) (h : Nat), compP K l n = some h → h < 18446744073709551616
  | 0, n, h, e => by
    rw [compP] at e
    cases hk : K (0, n) with
    | none => rw [hk] at e; cases e
    | some o => rw [hk] at e; simp at e; exact hK (0, n) h (by rw [hk, e])
  | l + 1, n, h, e => by
    rw [compP] at e
    cases hk : K (l + 1, n) with
    | none => rw [hk] at e; exact joinN_lt _ _ h e
    | some o => rw [hk] at e; exact hK _ h (by rw [hk, ← e])
/-! ### proofs that are made from hashes of the outside -/
abbrev HMap := Nat × Int → Option Nat
def leftH (H : HMap) (a : Int) (xs : List (Nat × Int)) : List Nat := xs.filterMap fun x => if bLast x < a then H x else none
def rightH (H : HMap) (a : Int) (xs : List (Nat × Int)) : List Nat := xs.filterMap fun x => if bLast x < a then none else H x
def shapeH (H : HMap) (xs : List (Nat × Int)) : List UInt8 := xs.map fun x => if (H x).isSome = true then 1 else 0
def prfH (H : HMap) (a b : Int) : Prf := ⟨leftH H a (outL a b 12 0), rightH H a (outL a b 12 0), shapeH H (outL a b 12 0)⟩
def kH (H : HMap) (xs : List (Nat × Int)) : KMap := fun y => if y ∈ xs then some (H y) else none
theorem outL_sideK {a b : Int} (hab : a ≤ b) : ∀ (l : Nat) (n : Int) (x : Nat × Int), x ∈ outL a b l n → (bLast x < a ∧ ¬ b < bFirst x) ∨ (¬ bLast x < a ∧ b < bFirst x)
  | 0, n, x, h => by
    rw [outL] at h
    split at h
    · rename_i ho
      rw [List.mem_singleton.1 h]
      have : bFirst (0, n) ≤ bLast (0, n) := by unfold bFirst bLast; simp
      omega
    · cases h
  | l + 1, n, x, h => by
    rw [outL] at h
    split at h
    · rename_i ho
      rw [List.mem_singleton.1 h]
      have hp := pow_pos2 (l + 1)
      have : bFirst (l + 1, n) ≤ bLast (l + 1, n) := by
        unfold bFirst bLast
        dsimp only
        rw [Int.add_mul, Int.one_mul]
        omega
      omega
    · split at h
      · cases h
      · rcases List.mem_append.1 h with h | h
        · exact outL_sideK hab l _ x h
        · exact outL_sideK hab l _ x h
theorem knF_H {a b : Int} (H : HMap) : ∀ (xs : List (Nat × Int)) (s0 : List UInt8) (t : KSt) (l r : List Nat), (∀ x ∈ xs, (bLast x < a ∧ ¬ b < bFirst x) ∨ (¬ bLast x < a ∧ b < bFirst x)) → t.i = s0.length → t.l = leftH H a xs ++ l → t.r = rightH H a xs ++ r →
    ∃ K, knF b (s0 ++ shapeH H xs) t xs = some ⟨s0.length + xs.length, K, l, r⟩ ∧ ∀ y, K y = if y ∈ xs then some (H y) else t.K y
  | [], s0, t, l, r, _, hi, hl, hr => by
    refine ⟨t.K, ?_, fun y => by simp⟩
    rw [knF_nil]
    obtain ⟨i, K, tl, tr⟩ := t
    simp only [leftH, rightH, List.filterMap_nil, List.nil_append] at hl hr hi ⊢
    simp [hi, hl, hr]
  | x :: xs, s0, t, l, r, hs, hi, hl, hr => by
    have hx := hs x (by simp)
    have hget : (s0 ++ shapeH H (x :: xs))[t.i]? = some (if (H x).isSome = true then 1 else 0) := by
      rw [hi, List.getElem?_append_right (Nat.le_refl _), Nat.sub_self]
      simp [shapeH]
    have hsplit : s0 ++ shapeH H (x :: xs) = (s0 ++ [if (H x).isSome = true then (1 : UInt8) else 0]) ++ shapeH H xs := by simp [shapeH]
    have key : ∃ t', stepK b (s0 ++ shapeH H (x :: xs)) x t = some t' ∧ t'.i = s0.length + 1 ∧ t'.K = kset t.K x (H x) ∧ t'.l = leftH H a xs ++ l ∧ t'.r = rightH H a xs ++ r := by
      unfold stepK
      rw [hget]
      cases hH : H x with
      | none =>
        refine ⟨_, rfl, by simp [hi], by simp, ?_, ?_⟩
        · simpa [leftH, hH] using hl
        · simpa [rightH, hH] using hr
      | some h =>
        rcases hx with ⟨h1, h2⟩ | ⟨h1, h2⟩
        · have e : t.l = h :: (leftH H a xs ++ l) := by rw [hl]; simp [leftH, h1, hH]
          have e2 : t.r = rightH H a xs ++ r := by rw [hr]; simp [rightH, h1]
          refine ⟨⟨t.i + 1, kset t.K x (some h), leftH H a xs ++ l, t.r⟩, ?_, by simp [hi], rfl, rfl, e2⟩
          have d1 : ¬ (1 : UInt8) < 1 := by decide
          simp only [Option.isSome_some, if_true, if_neg d1, if_neg h2, e]
        · have e : t.r = h :: (rightH H a xs ++ r) := by rw [hr]; simp [rightH, h1, hH]
          have e2 : t.l = leftH H a xs ++ l := by rw [hl]; simp [leftH, h1]
          refine ⟨⟨t.i + 1, kset t.K x (some h), t.l, rightH H a xs ++ r⟩, ?_, by simp [hi], rfl, e2, rfl⟩
          have d1 : ¬ (1 : UInt8) < 1 := by decide
          simp only [Option.isSome_some, if_true, if_neg d1, if_pos h2, e]
    obtain ⟨t', hst, h1, h2, h3, h4⟩ := key
    obtain ⟨K, hK, hKy⟩ := knF_H H xs (s0 ++ [if (H x).isSome = true then (1 : UInt8) else 0]) t' l r (fun y hy => hs y (by simp [hy])) (by rw [h1]; simp) h3 h4
    refine ⟨K, ?_, fun y => ?_⟩
    · have : knF b (s0 ++ shapeH H (x :: xs)) t (x :: xs) = knF b (s0 ++ shapeH H (x :: xs)) t' xs := by
        unfold knF
        rw [List.foldl_cons, Option.bind_some, hst]
      rw [this, hsplit, hK]
      simp; omega
    · rw [hKy, h2]
      unfold kset
      by_cases hy : y ∈ xs
      · simp [hy]
      · by_cases hyx : y = x
        · simp [hyx]
        · simp [hy, hyx]
/-- A proof that is made from hashes of the outside has the right form. -/
theorem formP_H {a b : Int} (hab : a ≤ b) (H : HMap) (ps : List (Int × List UInt8)) : ∃ K, formP a b ps (prfH H a b) = some (knE K ps) ∧ ∀ y, K y = if y ∈ outL a b 12 0 then some (H y) else none := by
  obtain ⟨K, h1, h2⟩ := knF_H (a := a) (b := b) H (outL a b 12 0) [] ⟨0, fun _ => none, leftH H a (outL a b 12 0), rightH H a (outL a b 12 0)⟩ [] [] (fun x hx => outL_sideK hab 12 0 x hx) rfl (by simp) (by simp)
  refine ⟨K, ?_, h2⟩
  unfold formP prfH
  simp only [List.nil_append, List.length_nil, Nat.zero_add] at h1
  simp only [h1]
  rw [if_pos (by simp [shapeH])]
theorem rngP_H (M : KVs) (a b : Int) : rngP M a b = prfH (fun x => hbN M x.1 x.2) a b := by
  unfold rngP prfH leftL rightL shapeL leftH rightH shapeH leftF rightF someB
  rfl
end Go.Proofs.YtcmjbjlliehdiaaDoor
