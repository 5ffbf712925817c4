/- The reference's Check in plain: the list of the blocks whose hashes it knows, against the map of the package. -/
import Derived.Test.YtcmjbjlliehdiaaDoorGAuthmapChecksSQkh
import Derived.Test.YtcmjbjlliehdiaaDoorGAuthmapChecks11
import Derived.Test.YtcmjbjlliehdiaaDoorGAuthmapChecks20
namespace Go.Proofs.YtcmjbjlliehdiaaDoor
open Go Go.RowKit PA
abbrev KEs := List ((Nat × Int) × Nat)
structure KOK (E : KEs) (K : KMap) : Prop where
  mem : ∀ e ∈ E, K e.1 = some (some e.2)
  all : ∀ x h, K x = some (some h) → (x, h) ∈ E
  no : ∀ x, K x = some none → ∀ e ∈ E, ¬ inB x.1 x.2 (bFirst e.1)
  lt : ∀ e ∈ E, e.2 < 18446744073709551616
theorem inB_first (l : Nat) (n : Int) : inB l n (bFirst (l, n)) := by
  unfold inB bFirst
  dsimp only
  have := pow_pos2 l
  rw [Int.add_mul, Int.one_mul]
  omega
theorem comp_none {E : KEs} {K : KMap} (hK : KOK E K) : ∀ (l : Nat) (n : Int), (∀ e ∈ E, ¬ inB l n (bFirst e.1)) → compP K l n = none
  | 0, n, h => by
    rw [compP]
    cases hk : K (0, n) with
    | none => rfl
    | some o =>
      cases o with
      | none => rfl
      | some y => exact absurd (inB_first 0 n) (h _ (hK.all _ _ hk))
  | l + 1, n, h => by
    rw [compP]
    cases hk : K (l + 1, n) with
    | none =>
      dsimp only
      rw [comp_none hK l (2 * n) fun e he hi => h e he ((inB_succ l n _).2 (.inl hi)), comp_none hK l (2 * n + 1) fun e he hi => h e he ((inB_succ l n _).2 (.inr hi))]
      rfl
    | some o =>
      cases o with
      | none => rfl
      | some y => exact absurd (inB_first (l + 1) n) (h _ (hK.all _ _ hk))
theorem comp_at {E : KEs} {K : KMap} (hK : KOK E K) {l : Nat} {n : Int} {h : Nat} (hm : ((l, n), h) ∈ E) : compP K l n = some h := by
  have := hK.mem _ hm
  cases l with
  | zero => rw [compP, this]; rfl
  | succ l => rw [compP, this]
theorem level_lt {l m : Nat} {x : Nat × Int} {n : Int} (h1 : x.1 = l) (h2 : inB l n (bFirst x)) : x = (l, n) := by
  obtain ⟨xl, xn⟩ := x
  simp only at h1
  subst h1
  have := inB_uniq (inB_first xl xn) h2
  rw [this]
theorem comp_some {E : KEs} {K : KMap} (hK : KOK E K) {e : (Nat × Int) × Nat} (he : e ∈ E) : ∀ (l : Nat) (n : Int), inB l n (bFirst e.1) → e.1.1 ≤ l → compP K l n ≠ none
  | 0, n, hi, hl => by
    have hx : e.1 = (0, n) := level_lt (m := 0) (by omega) hi
    have : ((0, n), e.2) ∈ E := by rw [← hx]; exact he
    rw [comp_at hK this]
    simp
  | l + 1, n, hi, hl => by
    by_cases hx : e.1 = (l + 1, n)
    · have : ((l + 1, n), e.2) ∈ E := by rw [← hx]; exact he
      rw [comp_at hK this]
      simp
    · have hl' : e.1.1 ≤ l := by
        rcases Nat.lt_or_ge e.1.1 (l + 1) with h | h
        · omega
        · exact absurd (level_lt (m := 0) (by omega) hi) hx
      rw [compP]
      cases hk : K (l + 1, n) with
      | none =>
        dsimp only
        rw [Ne, joinN_none]
        rintro ⟨h1, h2⟩
        rcases (inB_succ l n _).1 hi with h | h
        · exact comp_some hK he l _ h hl' h1
        · exact comp_some hK he l _ h hl' h2
      | some o =>
        cases o with
        | none => exact absurd hi (hK.no _ hk e he)
        | some y => simp
/-- No block that is known is greater than the one that is asked for. -/
def OfInv (E : KEs) (l : Nat) (n : Int) : Prop := ∀ e ∈ E, inB l n (bFirst e.1) → e.1.1 ≤ l
theorem OfInv.half {E : KEs} {l : Nat} {n : Int} (h : OfInv E (l + 1) n) (hno : ∀ e ∈ E, e.1 ≠ (l + 1, n)) : OfInv E l (2 * n) ∧ OfInv E l (2 * n + 1) := by
  have key : ∀ e ∈ E, inB (l + 1) n (bFirst e.1) → e.1.1 ≤ l := fun e he hi => by
    have h1 := h e he hi
    rcases Nat.lt_or_ge e.1.1 (l + 1) with h2 | h2
    · omega
    · exact absurd (level_lt (m := 0) (by omega) hi) (hno e he)
  exact ⟨fun e he hi => key e he ((inB_succ l n _).2 (.inl hi)), fun e he hi => key e he ((inB_succ l n _).2 (.inr hi))⟩
/-! ### the list that Check makes -/
def pairE (ps : PrL) : KEs := ps.map fun x => ((0, x.1), leafN x.1 x.2)
def entE (K : KMap) (xs : List (Nat × Int)) : KEs := xs.filterMap fun x => match K x with | some (some h) => some (x, h) | _ => none
theorem mem_entE {K : KMap} {xs : List (Nat × Int)} {e : (Nat × Int) × Nat} : e ∈ entE K xs ↔ e.1 ∈ xs ∧ K e.1 = some (some e.2) := by
  unfold entE
  rw [List.mem_filterMap]
  constructor
  · rintro ⟨x, hx, h⟩
    cases hk : K x with
    | none => rw [hk] at h; cases h
    | some o =>
      cases o with
      | none => rw [hk] at h; cases h
      | some y =>
        rw [hk] at h
        cases h
        exact ⟨hx, hk⟩
  · rintro ⟨h1, h2⟩
    exact ⟨e.1, h1, by rw [h2]⟩
theorem entE_keep {K : KMap} {xs : List (Nat × Int)} {x : Nat × Int} (v : Option Nat) (hx : x ∉ xs) : entE (kset K x v) xs = entE K xs := by
  unfold entE
  exact filterMap_cg fun y hy => by
    unfold kset
    rw [if_neg (fun e => hx (by rw [← e]; exact hy))]
theorem entE_no {K : KMap} {xs : List (Nat × Int)} {x : Nat × Int} (hx : x ∉ xs) : entE (kset K x none) (xs ++ [x]) = entE K xs := by
  have e : entE (kset K x none) (xs ++ [x]) = entE (kset K x none) xs ++ entE (kset K x none) [x] := by unfold entE; rw [List.filterMap_append]
  rw [e, entE_keep none hx]
  simp [entE, kset]
theorem entE_so {K : KMap} {xs : List (Nat × Int)} {x : Nat × Int} (h : Nat) (hx : x ∉ xs) : entE (kset K x (some h)) (xs ++ [x]) = entE K xs ++ [(x, h)] := by
  have e : entE (kset K x (some h)) (xs ++ [x]) = entE (kset K x (some h)) xs ++ entE (kset K x (some h)) [x] := by unfold entE; rw [List.filterMap_append]
  rw [e, entE_keep (some h) hx]
  simp [entE, kset]
theorem stepK_dom {b : Int} {s : List UInt8} {x : Nat × Int} {t t' : KSt} (h : stepK b s x t = some t') : t'.i = t.i + 1 ∧ (∀ y, t'.K y ≠ none → t.K y ≠ none ∨ y = x) := by
  have hk : ∀ v y, kset t.K x v y ≠ none → t.K y ≠ none ∨ y = x := fun v y hy => by
    unfold kset at hy
    split at hy
    · exact .inr (by assumption)
    · exact .inl hy
  unfold stepK at h
  split at h
  · cases h
  · split at h
    · cases h
    · split at h
      · split at h
        · split at h
          · cases h
          · cases h; exact ⟨rfl, hk _⟩
        · split at h
          · cases h
          · cases h; exact ⟨rfl, hk _⟩
      · cases h; exact ⟨rfl, hk _⟩
theorem knF_cons {b : Int} {s : List UInt8} {t0 : KSt} {x : Nat × Int} {xs : List (Nat × Int)} {t : KSt} (h : knF b s t0 (x :: xs) = some t) : ∃ t1, stepK b s x t0 = some t1 ∧ knF b s t1 xs = some t := by
  unfold knF at h ⊢
  rw [List.foldl_cons, Option.bind_some] at h
  cases hs : stepK b s x t0 with
  | none => rw [hs, knF_none] at h; cases h
  | some t1 => rw [hs] at h; exact ⟨t1, rfl, h⟩
theorem knF_dom {b : Int} {s : List UInt8} : ∀ (xs : List (Nat × Int)) {t0 t : KSt}, knF b s t0 xs = some t → t.i = t0.i + xs.length ∧ ∀ y, t.K y ≠ none → t0.K y ≠ none ∨ y ∈ xs
  | [], t0, t, h => by
    rw [knF_nil] at h
    cases h
    exact ⟨by simp, fun y hy => .inl hy⟩
  | x :: xs, t0, t, h => by
    obtain ⟨t1, h1, h2⟩ := knF_cons h
    obtain ⟨a1, a2⟩ := stepK_dom h1
    obtain ⟨b1, b2⟩ := knF_dom xs h2
    refine ⟨by rw [b1, a1, List.length_cons]; omega, fun y hy => ?_⟩
    rcases b2 y hy with h3 | h3
    · rcases a2 y h3 with h4 | h4
      · exact .inl h4
      · exact .inr (by simp [h4])
    · exact .inr (by simp [h3])
/-- Two blocks of the outside have no key together. -/
theorem outL_apart {a b : Int} : ∀ (l : Nat) (n : Int) (x y : Nat × Int), x ∈ outL a b l n → y ∈ outL a b l n → x ≠ y → bLast x < bFirst y ∨ bLast y < bFirst x
  | 0, n, x, y, hx, hy, hne => by
    rw [outL] at hx hy
    split at hx
    · rename_i ho
      rw [if_pos ho] at hy
      exact absurd ((List.mem_singleton.1 hx).trans (List.mem_singleton.1 hy).symm) hne
    · cases hx
  | l + 1, n, x, y, hx, hy, hne => by
    by_cases ho : isOut a b (l + 1, n)
    · rw [outL_out ho] at hx hy
      exact absurd ((List.mem_singleton.1 hx).trans (List.mem_singleton.1 hy).symm) hne
    · by_cases hi : a ≤ bFirst (l + 1, n) ∧ bLast (l + 1, n) ≤ b
      · rw [outL_inside hi] at hx; cases hx
      · rw [outL_halves ho hi] at hx hy
        obtain ⟨h1, h2, h3, h4, h5⟩ := half_bounds l n
        rcases List.mem_append.1 hx with hx | hx <;> rcases List.mem_append.1 hy with hy | hy
        · exact outL_apart l _ x y hx hy hne
        · have := outL_in_block l _ x hx
          have := outL_in_block l _ y hy
          omega
        · have := outL_in_block l _ x hx
          have := outL_in_block l _ y hy
          omega
        · exact outL_apart l _ x y hx hy hne
theorem inB_bounds {x : Nat × Int} {k : Int} : inB x.1 x.2 k ↔ bFirst x ≤ k ∧ k ≤ bLast x := by
  unfold inB bFirst bLast
  omega
theorem asc_of_wrong {a b : Int} : ∀ {ps : PrL} {o : Option Int}, wrongP a b ps o = false → AscP ps ∧ (∀ x ∈ ps, (a ≤ x.1 ∧ x.1 ≤ b) ∧ x.2.length ≤ 65536) ∧ ∀ k, o = some k → ∀ x ∈ ps, k < x.1
  | [], _, _ => ⟨List.Pairwise.nil, fun _ h => (by cases h), fun _ _ _ h => (by cases h)⟩
  | x :: ps, o, h => by
    unfold wrongP at h
    simp only [Bool.or_eq_false_iff, decide_eq_false_iff_not] at h
    obtain ⟨⟨⟨⟨h1, h2⟩, h3⟩, h4⟩, h5⟩ := h
    obtain ⟨i1, i2, i3⟩ := asc_of_wrong h5
    refine ⟨?_, fun y hy => ?_, fun k hk y hy => ?_⟩
    · unfold AscP at *
      rw [List.map_cons]
      refine List.pairwise_cons.2 ⟨fun z hz => ?_, i1⟩
      obtain ⟨y, hy, rfl⟩ := List.mem_map.1 hz
      exact i3 _ rfl y hy
    · rcases List.mem_cons.1 hy with rfl | hy
      · exact ⟨by omega, by omega⟩
      · exact i2 y hy
    · subst hk
      simp only [decide_eq_false_iff_not] at h3
      rcases List.mem_cons.1 hy with rfl | hy
      · omega
      · have := i3 _ rfl y hy
        omega
theorem lkP_in {ps : PrL} (h : AscP ps) : ∀ x ∈ ps, lkP ps x.1 = some x.2 := by
  induction ps with
  | nil => intro x hx; cases hx
  | cons y ps ih =>
    intro x hx
    rcases List.mem_cons.1 hx with rfl | hx
    · rw [lkP, if_pos rfl]
    · rw [lkP, if_neg (by have := h.cons.1 x hx; omega)]
      exact ih h.cons.2 x hx
theorem lkP_mem' : ∀ {ps : PrL} {k : Int} {v : List UInt8}, lkP ps k = some v → (k, v) ∈ ps
  | [], _, _, h => by cases h
  | x :: ps, k, v, h => by
    rw [lkP] at h
    split at h
    · rename_i e
      cases h
      rw [e]
      simp
    · exact List.mem_cons_of_mem _ (lkP_mem' h)
theorem known_ok {a b : Int} {ps : PrL} (hw : wrongP a b ps none = false) {s : List UInt8} {l r : List Nat} (hl : ∀ h ∈ l, h < 18446744073709551616) (hr : ∀ h ∈ r, h < 18446744073709551616) {t : KSt} (h : knF b s ⟨0, fun _ => none, l, r⟩ (outL a b 12 0) = some t)
    (hlt : ∀ e ∈ entE t.K (outL a b 12 0), e.2 < 18446744073709551616) : KOK (pairE ps ++ entE t.K (outL a b 12 0)) (knE t.K ps) ∧ OfInv (pairE ps ++ entE t.K (outL a b 12 0)) 12 0 := by
  obtain ⟨hA, hps, -⟩ := asc_of_wrong hw
  obtain ⟨-, hdom⟩ := knF_dom _ h
  have hd : ∀ y, t.K y ≠ none → y ∈ outL a b 12 0 := fun y hy => (hdom y hy).resolve_left (fun h => h rfl)
  have hat := fun y => knE_at ps t.K y hA
  have hin : ∀ k v, lkP ps k = some v → a ≤ k ∧ k ≤ b := fun k v hk => (hps _ (lkP_mem' hk)).1
  have hnp : ∀ y ∈ outL a b 12 0, y.1 = 0 → lkP ps y.2 = none := fun y hy h0 => by
    cases hk : lkP ps y.2 with
    | none => rfl
    | some v =>
      exfalso
      have h1 := hin _ _ hk
      have h2 := outL_isOut 12 0 y hy
      obtain ⟨yl, yn⟩ := y
      simp only at h0 h1
      subst h0
      unfold isOut bLast bFirst at h2
      simp at h2
      omega
  have hKo : ∀ y ∈ outL a b 12 0, knE t.K ps y = t.K y := fun y hy => by
    rw [hat y]
    split
    · rename_i h0
      rw [hnp y hy h0]
    · rfl
  refine ⟨⟨fun e he => ?_, fun x hh hx => ?_, fun x hx e he => ?_, fun e he => ?_⟩, fun e he hi => ?_⟩
  · rcases List.mem_append.1 he with he | he
    · obtain ⟨y, hy, rfl⟩ := List.mem_map.1 he
      rw [hat, if_pos rfl]
      dsimp only
      rw [lkP_in hA y hy]
    · obtain ⟨h1, h2⟩ := mem_entE.1 he
      rw [hKo _ h1, h2]
  · rw [hat x] at hx
    by_cases h0 : x.1 = 0
    · rw [if_pos h0] at hx
      cases hk : lkP ps x.2 with
      | none =>
        rw [hk] at hx
        replace hx : t.K x = some (some hh) := hx
        exact List.mem_append_right _ (mem_entE.2 ⟨hd x (by rw [hx]; simp), hx⟩)
      | some v =>
        rw [hk] at hx
        cases hx
        refine List.mem_append_left _ (List.mem_map.2 ⟨_, lkP_mem' hk, ?_⟩)
        obtain ⟨xl, xn⟩ := x
        simp only at h0
        subst h0
        rfl
    · rw [if_neg h0] at hx
      exact List.mem_append_right _ (mem_entE.2 ⟨hd x (by rw [hx]; simp), hx⟩)
  · have hxo : t.K x = some none := by
      rw [hat x] at hx
      split at hx
      · cases hk : lkP ps x.2 with
        | none => rw [hk] at hx; exact hx
        | some v => rw [hk] at hx; cases hx
      · exact hx
    have hxm := hd x (by rw [hxo]; simp)
    rcases List.mem_append.1 he with he | he
    · obtain ⟨y, hy, rfl⟩ := List.mem_map.1 he
      intro hi
      rw [inB_bounds] at hi
      have h1 := (hps y hy).1
      have h2 := outL_isOut 12 0 x hxm
      unfold isOut at h2
      have h3 : bFirst ((0, y.1) : Nat × Int) = y.1 := by unfold bFirst; simp
      rw [h3] at hi
      omega
    · obtain ⟨h1, h2⟩ := mem_entE.1 he
      intro hi
      rw [inB_bounds] at hi
      have hne : x ≠ e.1 := fun hxe => by rw [← hxe, hxo] at h2; cases h2
      have h3 := outL_in_block 12 0 e.1 h1
      rcases outL_apart 12 0 x e.1 hxm h1 hne with h4 | h4
      · omega
      · omega
  · rcases List.mem_append.1 he with he | he
    · obtain ⟨y, hy, rfl⟩ := List.mem_map.1 he
      exact leafN_lt _ _
    · exact hlt e he
  · rcases List.mem_append.1 he with he | he
    · obtain ⟨y, hy, rfl⟩ := List.mem_map.1 he
      exact Nat.zero_le _
    · obtain ⟨h1, h2⟩ := mem_entE.1 he
      exact (outL_inT a b 12 0 inT_top e.1 h1).1
end Go.Proofs.YtcmjbjlliehdiaaDoor
/- Literals of bytes and of other one-cell elements. -/
namespace Go.Proofs.YtcmjbjlliehdiaaDoor
open Go.RowKit PA
theorem litB {W w : World} {A : Assn} {I : Mem} (h : Sat W w (sep (kn I) A)) (bs : List UInt8) (t : TypeId) (hb : bs.length ≤ maxLen) :
    ∃ J, Mem.le I J ∧ rBytes.rel J [.slice (some ⟨w.heap.size, 0, none⟩) bs.length bs.length] bs ∧ Sat W (w.alloc (.cells (bs.map bv).toArray t)) (sep (kn J) A) := by
  obtain ⟨J, h1, h2, h3⟩ := (h.bytes_of_alloc bs t (0, 0) hb).learn
  exact ⟨J, h1, h2, h3⟩
theorem litI {W w : World} {A : Assn} {I : Mem} (h : Sat W w (sep (kn I) A)) (ns : List Int) (t : TypeId) (hb : ns.length ≤ maxLen) :
    ∃ J, Mem.le I J ∧ (rInt.slice 1).rel J [.slice (some ⟨w.heap.size, 0, none⟩) ns.length ns.length] ns ∧ Sat W (w.alloc (.cells (ns.map iv).toArray t)) (sep (kn J) A) := by
  have h1 := (h.alloc (.cells (ns.map iv).toArray t)).settle
  obtain ⟨J, hle, hp, h2⟩ := (show Sat W _ (sep (imm w.heap.size (.cells (ns.map iv).toArray t)) (sep (kn I) A)) from h1).learn
  refine ⟨J, hle, ints_rel.2 ⟨_, _, rfl, ⟨Nat.le_refl _, hb, fun h => by cases h⟩, .inr ⟨w.heap.size, 0, _, t, (0, 0), rfl, hp, fun i u hu => by simpa using hu⟩⟩, h2⟩
theorem litO {W w : World} {A : Assn} {E : Nat} (h : Sat W w A) (xs : List Value) (n : Nat) (hn : n = xs.length) (hl : n ≤ maxLen) : Sat W (w.alloc (.cells xs.toArray E)) (sep (osl E 1 (some ⟨w.heap.size, 0, none⟩) n n xs) A) := by
  subst hn
  exact (h.alloc (.cells xs.toArray E)).osl_mk xs.length xs.length 1 xs (by simp) (Nat.le_refl _) hl (by simp) (by simp)
theorem nilB (I : Mem) : rBytes.rel I [.slice none 0 0] [] := bytes_rel.2 ⟨none, 0, rfl, ⟨Nat.le_refl _, Nat.zero_le _, fun _ => rfl⟩, .inl rfl⟩
theorem nilI (I : Mem) : (rInt.slice 1).rel I [.slice none 0 0] [] := ints_rel.2 ⟨none, 0, rfl, ⟨Nat.le_refl _, Nat.zero_le _, fun _ => rfl⟩, .inl rfl⟩
end Go.Proofs.YtcmjbjlliehdiaaDoor
