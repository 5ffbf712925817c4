/- Title's script: what its acts are; the owners on two days, in plain. No program in sight. -/
import Derived.Test.YtfapiopnjllnnaaGreatDoorGTitleApart27
import Derived.Test.YtfapiopnjllnnaaGreatDoorGTitleApart44
import Derived.Test.YtfapiopnjllnnaaGreatDoorGTitleApartSUg
namespace Go.Proofs.YtfapiopnjllnnaaGreatDoor
open Go PA
/-- An act of the script behind its two filings. -/
structure SAct (x : Ac) : Prop where
  d1 : 95 ≤ x.d
  d2 : x.d < 135
  kd : x.k = 16 ∨ x.k = 17 ∨ x.k = 1
  tr : x.k = 16 → okR x.sh = true ∧ 0 < x.sn ∧ (1 ≤ x.p ∧ x.p ≤ 4) ∧ (1 ≤ x.q ∧ x.q ≤ 4) ∧ x.p ≠ x.q
  li : x.k = 17 → (1 ≤ x.p ∧ x.p ≤ 4) ∧ (1 ≤ x.q ∧ x.q ≤ 4) ∧ x.d ≤ x.u ∧ x.u < x.d + 30
theorem shs_ok (j : Nat) (hj : j < 7) : okR (shsP.getD j ⟨0, 0⟩) = true ∧ 0 < (shsP.getD j ⟨0, 0⟩).n := by
  rcases (show j = 0 ∨ j = 1 ∨ j = 2 ∨ j = 3 ∨ j = 4 ∨ j = 5 ∨ j = 6 by omega) with rfl | rfl | rfl | rfl | rfl | rfl | rfl
  · exact ⟨okR_mk 1 1 (by omega) (by omega) (by decide) (by rfl), by decide⟩
  · exact ⟨okR_mk 1 2 (by omega) (by omega) (by decide) (by rfl), by decide⟩
  · exact ⟨okR_mk 1 3 (by omega) (by omega) (by decide) (by rfl), by decide⟩
  · exact ⟨okR_mk 2 3 (by omega) (by omega) (by decide) (by rfl), by decide⟩
  · exact ⟨okR_mk 1 6 (by omega) (by omega) (by decide) (by rfl), by decide⟩
  · exact ⟨okR_mk 1 1048576 (by omega) (by omega) (by decide) (by rfl), by decide⟩
  · exact ⟨okR_mk 1 1048575 (by omega) (by omega) (by decide) (by rfl), by decide⟩
theorem act2_eq (k : Nat) (x : Ac) : (act2 k x).k = x.k ∧ (act2 k x).d = x.d ∧ (act2 k x).n = x.n ∧ (act2 k x).p = x.p ∧ (act2 k x).q = x.q := by
  unfold act2; split <;> exact ⟨rfl, rfl, rfl, rfl, rfl⟩
theorem act3_eq (k n : Nat) (x : Ac) : (act3 k n x).d = x.d ∧ (act3 k n x).n = x.n ∧ (act3 k n x).p = x.p ∧ (act3 k n x).q = x.q := by
  unfold act3; split <;> exact ⟨rfl, rfl, rfl, rfl⟩
theorem actN_s (k n d i : Nat) (hd : d < 40) : SAct (actN k n d i) ∧ (actN k n d i).n = 5 + 2 * (i : Int) := by
  obtain ⟨y, hy⟩ : ∃ y, y = act2 k (act1 k i d) := ⟨_, rfl⟩
  obtain ⟨a1, a2, a3, a4, a5⟩ := act2_eq k (act1 k i d)
  rw [← hy] at a1 a2 a3 a4 a5
  obtain ⟨b1, b2, b3, b4⟩ := act3_eq k n y
  have e0 : actN k n d i = act4 k (act3 k n y) := by rw [hy]; rfl
  have c1 : y.k = 16 := a1
  have c2 : y.d = 95 + (d : Int) := a2
  have c3 : y.n = 5 + 2 * (i : Int) := a3
  have c4 : y.p = 1 + ((k % 4 : Nat) : Int) := a4
  have c5 : y.q = 1 + (((k % 4 + 1 + k / 4 % 3) % 4 : Nat) : Int) := a5
  rw [e0]
  by_cases e23 : k % 23 = 22
  · have e : act4 k (act3 k n y) = acNum 1 (act3 k n y).d (act3 k n y).n 2 0 0 ⟨0, 0⟩ := by unfold act4; rw [if_pos e23]
    rw [e, b1, b2, c2, c3]
    exact ⟨⟨by show (95 : Int) ≤ 95 + d; omega, by show 95 + (d : Int) < 135; omega, .inr (.inr rfl), fun h => (by cases h), fun h => (by cases h)⟩, rfl⟩
  · have e : act4 k (act3 k n y) = act3 k n y := by unfold act4; rw [if_neg e23]
    rw [e]
    by_cases e5 : k % 5 = 4
    · have e' : act3 k n y = { y with k := 17, u := y.d + ((n % 30 : Nat) : Int) } := by unfold act3; rw [if_pos e5]
      rw [e']
      refine ⟨⟨?_, ?_, .inr (.inl rfl), fun h => (by cases h), fun _ => ⟨?_, ?_, ?_, ?_⟩⟩, c3⟩
      · show 95 ≤ y.d; omega
      · show y.d < 135; omega
      · show 1 ≤ y.p ∧ y.p ≤ 4; omega
      · show 1 ≤ y.q ∧ y.q ≤ 4; omega
      · show y.d ≤ y.d + ((n % 30 : Nat) : Int); omega
      · show y.d + ((n % 30 : Nat) : Int) < y.d + 30; omega
    · have e' : act3 k n y = { y with sn := (shsP.getD (n % 7) ⟨0, 0⟩).n, sd := (shsP.getD (n % 7) ⟨0, 0⟩).d } := by unfold act3; rw [if_neg e5]
      have hs := shs_ok (n % 7) (by omega)
      rw [e']
      obtain ⟨r, hr⟩ : ∃ r, r = shsP.getD (n % 7) ⟨0, 0⟩ := ⟨_, rfl⟩
      rw [← hr] at hs ⊢
      refine ⟨⟨?_, ?_, .inl c1, fun _ => ⟨hs.1, hs.2, ?_, ?_, ?_⟩, fun h => ?_⟩, c3⟩
      · show 95 ≤ y.d; omega
      · show y.d < 135; omega
      · show 1 ≤ y.p ∧ y.p ≤ 4; omega
      · show 1 ≤ y.q ∧ y.q ≤ 4; omega
      · show y.p ≠ y.q; omega
      · have h' : y.k = 17 := h
        rw [c1] at h'; cases h'
theorem actP_s (l : List Int) (i : Nat) : SAct (actP l i) ∧ (actP l i).n = 5 + 2 * (i : Int) := by
  obtain ⟨d, hd, hl⟩ := pickP_nat l (3 * i + 2) 40 (by omega)
  unfold actP
  rw [hd]
  exact actN_s _ _ _ _ (by omega)
theorem scrP_mem {l : List Int} {x : Ac} (h : x ∈ scrP l) : x = fil2 ∨ x = fil7 ∨ SAct x := by
  unfold scrP at h
  rcases List.mem_append.1 h with h | h
  · simp only [List.mem_cons, List.not_mem_nil, or_false] at h
    rcases h with h | h
    · exact .inl h
    · exact .inr (.inl h)
  · obtain ⟨i, -, rfl⟩ := List.mem_map.1 h
    exact .inr (.inr (actP_s l i).1)
theorem scrP_len (l : List Int) : (scrP l).length = scrN l + 2 := by simp [scrP]
theorem scrN_le (l : List Int) : scrN l ≤ 12 := by unfold scrN; omega
theorem scrP_key (l : List Int) : (scrP l).Pairwise KeyNe := by
  unfold scrP
  rw [List.pairwise_append]
  refine ⟨?_, ?_, ?_⟩
  · simp only [List.pairwise_cons, List.mem_singleton, List.not_mem_nil, false_imp_iff, implies_true, List.Pairwise.nil, and_true, forall_eq]
    exact .inl (by decide)
  · rw [List.pairwise_map]
    refine List.Pairwise.imp ?_ List.pairwise_lt_range
    intro a b hab
    refine .inr ?_
    rw [(actP_s l a).2, (actP_s l b).2]
    omega
  · intro x hx y hy
    obtain ⟨i, -, rfl⟩ := List.mem_map.1 hy
    refine .inr ?_
    rw [(actP_s l i).2]
    simp only [List.mem_cons, List.not_mem_nil, or_false] at hx
    rcases hx with rfl | rfl
    · show (0 : Int) ≠ _; omega
    · show (1 : Int) ≠ _; omega
theorem scrP_tr {l : List Int} {x : Ac} (h : x ∈ scrP l) (hk : x.k = 16) : okR x.sh = true ∧ 0 < x.sn ∧ (1 ≤ x.p ∧ x.p ≤ 4) ∧ (1 ≤ x.q ∧ x.q ≤ 4) ∧ x.p ≠ x.q := by
  rcases scrP_mem h with rfl | rfl | h
  · exact absurd hk (by decide)
  · exact absurd hk (by decide)
  · exact h.tr hk
theorem scrP_fine (l : List Int) : ActsFine (scrP l) := fun _ hx hk => ⟨(scrP_tr hx hk).1, by have := (scrP_tr hx hk).2.1; omega⟩
theorem find_one {p : Ac → Bool} {S : List Ac} {x : Ac} (hx : x ∈ S) (hp : p x = true) (hu : ∀ y ∈ S, p y = true → y = x) : S.find? p = some x := by
  cases h : S.find? p with
  | none => exact absurd hp (by simpa using List.find?_eq_none.1 h x hx)
  | some y => rw [hu y (List.mem_of_find?_eq_some h) (List.find?_some h)]
theorem scrP_filed (l : List Int) : filedT 2 (sortK (scrP l)) = some fil2 := by
  unfold filedT
  refine find_one ((sortK_perm _).symm.subset (by simp [scrP])) (by decide) fun y hy hp => ?_
  rcases scrP_mem ((sortK_perm _).subset hy) with e | e | e
  · exact e
  · rw [e] at hp; exact absurd hp (by decide)
  · unfold isFiling at hp
    have hk : y.k = 0 := by simpa using (Bool.and_eq_true_iff.1 hp).1
    rcases e.kd with e | e | e <;> omega
theorem scrP_err (l : List Int) (day : Int) (h1 : 100 ≤ day) (h2 : day ≤ 131072) : titleErr 2 day (sortK (scrP l)) = 0 := by
  unfold titleErr
  rw [if_neg (by omega), scrP_filed]
  show (if day < 100 then 7 else 0) = 0
  rw [if_neg (by omega)]
/-- One act of a walk, for the shares alone. -/
def stT (file fday day : Int) (S : Shs) (x : Ac) : Shs := if countsB file fday day x = true then (PA.stepT S x).1 else S
theorem walkT_foldl {σ : Type} (file fday day : Int) (ev : σ → Nat → Ac → Bool → σ) : ∀ (l : List Ac) (i : Nat) (S : Shs) (s : σ), (walkT file fday day ev i l S s).1 = l.foldl (stT file fday day) S
  | [], _, _, _ => rfl
  | x :: l, i, S, s => by
    rw [walkT, List.foldl_cons]
    unfold stT
    split
    · exact walkT_foldl file fday day ev l _ _ _
    · exact walkT_foldl file fday day ev l _ _ _
/-- One act between two days. -/
def laT (file fr tt : Int) (S : Shs) (x : Ac) : Shs := if x.k = 16 ∧ x.f = file ∧ fr < x.d ∧ x.d ≤ tt then (moveP S x).1 else S
theorem stT_low {file fday fr tt : Int} (h2 : fr ≤ tt) (S : Shs) (x : Ac) (hx : x.d ≤ fr) : stT file fday fr S x = stT file fday tt S x := by
  have e : countsB file fday fr x = countsB file fday tt x := by
    unfold countsB
    rw [decide_eq_true hx, decide_eq_true (show x.d ≤ tt by omega)]
  unfold stT; rw [e]
theorem stT_high {file fday fr : Int} (S : Shs) (x : Ac) (hx : fr < x.d) : stT file fday fr S x = S := by
  have e : countsB file fday fr x = false := by
    unfold countsB
    rw [decide_eq_false (show ¬ x.d ≤ fr by omega)]
    simp
  unfold stT; rw [e]; rfl
theorem laT_low {file fr tt : Int} (S : Shs) (x : Ac) (hx : x.d ≤ fr) : laT file fr tt S x = S := by
  unfold laT; rw [if_neg (by omega)]
theorem laT_high {file fday fr tt : Int} (h1 : fday ≤ fr) (S : Shs) (x : Ac) (hx : fr < x.d) : laT file fr tt S x = stT file fday tt S x := by
  unfold laT stT
  by_cases hk : x.k = 16
  · have hc : (countsB file fday tt x = true) ↔ (x.f = file ∧ x.d ≤ tt) := by
      unfold countsB ofFileB
      simp [hk]
      omega
    have hs : (PA.stepT S x).1 = (moveP S x).1 := by unfold PA.stepT; rw [if_pos hk]
    rw [hs]
    by_cases h : x.f = file ∧ x.d ≤ tt
    · rw [if_pos ⟨hk, h.1, hx, h.2⟩, if_pos (hc.2 h)]
    · rw [if_neg (fun e => h ⟨e.2.1, e.2.2.2⟩), if_neg (fun e => h (hc.1 e))]
  · have hs : (PA.stepT S x).1 = S := by unfold PA.stepT; rw [if_neg hk]
    rw [hs, if_neg (fun e => hk e.1)]
    split <;> rfl
theorem later_fold {file fday fr tt : Int} (h1 : fday ≤ fr) (h2 : fr ≤ tt) : ∀ (L : List Ac) (S : Shs), L.Pairwise (fun x y => x.d ≤ y.d) → L.foldl (laT file fr tt) (L.foldl (stT file fday fr) S) = L.foldl (stT file fday tt) S
  | [], _, _ => rfl
  | x :: L, S, hp => by
    have hp' := List.pairwise_cons.1 hp
    rcases Int.lt_or_le fr x.d with hx | hx
    · have hall : ∀ y ∈ x :: L, fr < y.d := by
        intro y hy
        rcases List.mem_cons.1 hy with rfl | hy
        · exact hx
        · have := hp'.1 y hy; omega
      have key : ∀ (M : List Ac) (T : Shs), (∀ y ∈ M, fr < y.d) → M.foldl (stT file fday fr) T = T ∧ M.foldl (laT file fr tt) T = M.foldl (stT file fday tt) T := by
        intro M
        induction M with
        | nil => intro T _; exact ⟨rfl, rfl⟩
        | cons y M ih =>
          intro T hM
          have hy := hM y (by simp)
          rw [List.foldl_cons, List.foldl_cons, List.foldl_cons, stT_high T y hy, laT_high h1 T y hy]
          exact ⟨(ih T fun z hz => hM z (by simp [hz])).1, (ih _ fun z hz => hM z (by simp [hz])).2⟩
      rw [(key _ S hall).1, (key _ S hall).2]
    · rw [List.foldl_cons, List.foldl_cons, List.foldl_cons, laT_low _ x hx, stT_low h2 S x hx]
      exact later_fold h1 h2 L _ hp'.2
theorem asc_days {L : List Ac} (h : Asc cmpK L) : L.Pairwise fun x y => x.d ≤ y.d := by
  refine List.Pairwise.imp ?_ h
  intro x y hc
  unfold cmpK at hc
  repeat' split at hc
  all_goals omega
/-- Whose shares are known. -/
theorem foldl_dom {Q : Int → Prop} (file fday day : Int) : ∀ (L : List Ac) (S : Shs), (∀ k, (S k).isSome = true → Q k) → (∀ x ∈ L, x.k = 16 → Q x.p ∧ Q x.q) → ∀ k, (L.foldl (stT file fday day) S k).isSome = true → Q k
  | [], _, h, _ => h
  | x :: L, S, h, hL => by
    rw [List.foldl_cons]
    refine foldl_dom file fday day L _ ?_ fun y hy => hL y (by simp [hy])
    unfold stT
    split
    · unfold PA.stepT
      split
      · rename_i hk
        unfold moveP
        split
        · exact h
        · split
          · exact h
          · intro k hk'
            unfold setSh at hk'
            by_cases e1 : k = x.q
            · rw [e1]; exact (hL x (by simp) hk).2
            · by_cases e2 : k = x.p
              · rw [e2]; exact (hL x (by simp) hk).1
              · simp only [e1, e2, if_false] at hk'
                exact h k hk'
      · exact h
    · exact h
theorem foldl_ok (file fday day : Int) : ∀ (L : List Ac) (S : Shs), ShOk S → (∀ x ∈ L, x.k = 16 → 0 ≤ x.sn) → ShOk (L.foldl (stT file fday day) S)
  | [], _, h, _ => h
  | x :: L, S, h, hL => by
    rw [List.foldl_cons]
    refine foldl_ok file fday day L _ ?_ fun y hy => hL y (by simp [hy])
    unfold stT
    split
    · by_cases hk : x.k = 16
      · exact stepT_ok h x (hL x (by simp) hk)
      · unfold PA.stepT; rw [if_neg hk]; exact h
    · exact h
/-- The shares on a day. -/
def scrS (l : List Int) (day : Int) : Shs := (sortK (scrP l)).foldl (stT 2 100 day) (first1 1)
theorem scrS_fin (l : List Int) (day : Int) : finT 2 day fil2 (scrP l) = scrS l day := by
  unfold finT scrS
  rw [walkT_foldl]; rfl
theorem scrS_later (l : List Int) {fr tt : Int} (h1 : 100 ≤ fr) (h2 : fr ≤ tt) : (sortK (scrP l)).foldl (laT 2 fr tt) (scrS l fr) = scrS l tt :=
  later_fold h1 h2 _ _ (asc_days (sortK_asc _))
theorem scrS_dom (l : List Int) (day : Int) : ∀ k, (scrS l day k).isSome = true → 1 ≤ k ∧ k ≤ 4 := by
  refine foldl_dom (Q := fun k => 1 ≤ k ∧ k ≤ 4) 2 100 day _ _ ?_ ?_
  · intro k hk
    unfold first1 setSh at hk
    split at hk
    · omega
    · cases hk
  · intro x hx hk
    have := scrP_tr ((sortK_perm _).subset hx) hk
    exact ⟨this.2.2.1, this.2.2.2.1⟩
theorem scrS_ok (l : List Int) (day : Int) : ShOk (scrS l day) :=
  foldl_ok 2 100 day _ _ (ShOk.first 1) fun x hx hk => by have := (scrP_tr ((sortK_perm _).subset hx) hk).2.1; omega
end Go.Proofs.YtfapiopnjllnnaaGreatDoor
/- What title's laws need of the acts of both generators. No program in sight. -/
namespace PA
open Go Go.Proofs.YtfapiopnjllnnaaGreatDoor
/-- An act as title's laws need it. -/
structure TA (x : Ac) : Prop where
  tr : x.k = 16 → okR x.sh = true ∧ 0 < x.sn ∧ (1 ≤ x.p ∧ x.p ≤ 10) ∧ (1 ≤ x.q ∧ x.q ≤ 10) ∧ x.p ≠ x.q
  fi : x.k = 0 → (1 ≤ x.p ∧ x.p ≤ 10) ∧ 0 ≤ x.f ∧ x.f ≤ 4095
  d1 : 0 ≤ x.d
  d2 : x.d ≤ 131072
theorem goodSh_ok {n d : Int} (h : GoodSh n d) : okR ⟨n, d⟩ = true ∧ 0 < n := by
  rcases h with ⟨rfl, rfl⟩ | ⟨rfl, rfl⟩ | ⟨rfl, rfl⟩ | ⟨rfl, rfl⟩ <;> exact ⟨by decide, by decide⟩
theorem goodA_TA {I : Mem} {N : Nat} (hN : N ≤ 100) {z : Ac} {x : Pa} (hA : IsA I z x) (h : GoodA N x) : TA z ∧ 35600 ≤ z.d ∧ z.d ≤ 38000 ∧ (z.k = 0 → z.f = 5 * (N : Int)) ∧ ∃ j : Nat, z.f = 5 * (j : Int) := by
  obtain ⟨y, d, n, hy, h1, h2, rfl⟩ := h
  have e1 : z.k = y.k := hA.k
  have e2 : z.f = y.f := hA.f
  have e3 : z.p = y.p := hA.p
  have e4 : z.q = y.q := hA.q
  have e5 : z.sn = y.sn := hA.sn
  have e6 : z.sd = y.sd := hA.sd
  have e7 : z.d = d := hA.d
  have hd1 : 0 ≤ z.d := by rw [e7]; omega
  have hd2 : z.d ≤ 131072 := by rw [e7]; omega
  rcases hy with hy | hy
  · obtain ⟨o, p, q, td, tc, ea, rfl, ho, hp, hq, hT, hE⟩ := hy
    have k0 : z.k = 0 := e1
    have f0 : z.f = 5 * (N : Int) := e2
    have p0 : z.p = p := e3
    refine ⟨⟨(fun h => by rw [k0] at h; cases h), fun _ => ⟨by rw [p0]; omega, by omega, by omega⟩, hd1, hd2⟩, by omega, by omega, fun _ => f0, N, f0⟩
  · have hne : z.k ≠ 0 := by
      rw [e1]
      cases hy <;> (simp only; first | omega | decide)
    have hfj : ∃ j : Nat, z.f = 5 * (j : Int) := by
      rw [e2]
      cases hy <;> (first | (rename_i hF; obtain ⟨j, -, e⟩ := hF; exact ⟨j, e⟩) | exact ⟨0, rfl⟩ | skip)
      all_goals (simp only [Pa.zero]; first | exact ⟨0, rfl⟩ | (rename_i a _ ; obtain ⟨j, -, e⟩ := a; exact ⟨j, e⟩) | skip)
      all_goals (first | (rename_i a _ _; obtain ⟨j, -, e⟩ := a; exact ⟨j, e⟩) | (rename_i a _ _ _; obtain ⟨j, -, e⟩ := a; exact ⟨j, e⟩) | (rename_i a _ _ _ _; obtain ⟨j, -, e⟩ := a; exact ⟨j, e⟩) | (rename_i a _ _ _ _ _; obtain ⟨j, -, e⟩ := a; exact ⟨j, e⟩) | (rename_i a _ _ _ _ _ _; obtain ⟨j, -, e⟩ := a; exact ⟨j, e⟩))
    refine ⟨⟨fun h => ?_, fun h => absurd h hne, hd1, hd2⟩, by omega, by omega, fun h => absurd h hne, hfj⟩
    unfold Ac.sh
    rw [e3, e4, e5, e6]
    rw [e1] at h
    cases hy <;> simp only at h
    all_goals first | omega | skip
    rename_i hp1 hp2 hq1 hq2 hs
    exact ⟨(goodSh_ok hs).1, (goodSh_ok hs).2, ⟨by simp only; omega, by simp only; omega⟩, ⟨by simp only; omega, by simp only; omega⟩, by simp only; omega⟩
/-- What the acts of one list have in common. -/
structure TL (xs : List Ac) : Prop where
  all : ∀ x ∈ xs, TA x
  key : xs.Pairwise KeyNe
  fil : (filsP xs).Nodup
theorem filsP_append (xs ys : List Ac) : filsP (xs ++ ys) = filsP xs ++ filsP ys := by unfold filsP; rw [List.filter_append, List.map_append]
theorem gen_get {I : Mem} {zl : List Ac} {ps : List Pa} (h1 : All2 (IsA I) zl ps) (h2 : Made ps) (hl : zl.length ≤ 100) (i : Nat) (hi : i < zl.length) :
    TA zl[i] ∧ 35600 ≤ zl[i].d ∧ zl[i].d ≤ 38000 ∧ (zl[i].k = 0 → zl[i].f = 5 * (filN (ps.take i) : Int)) ∧ (∃ j : Nat, zl[i].f = 5 * (j : Int)) ∧ zl[i].n = 4 * (i : Int) := by
  have hlen := All2.length h1
  have hp : i < ps.length := by omega
  have hA := h1.get i hi hp
  obtain ⟨hg, hn, -⟩ := h2 i hp
  have hN : filN (ps.take i) ≤ 100 := by have := filN_le (ps.take i); rw [List.length_take] at this; omega
  obtain ⟨a1, a2, a3, a4, a5⟩ := goodA_TA hN hA hg
  exact ⟨a1, a2, a3, a4, a5, by rw [hA.n, hn]⟩
theorem filsP_gen {I : Mem} : ∀ {zl : List Ac} {ps : List Pa}, All2 (IsA I) zl ps → Made ps → zl.length ≤ 100 → filsP zl = (List.range (filN ps)).map fun j : Nat => 5 * (j : Int) := by
  intro zl ps h1 h2 hl
  have key : ∀ k, k ≤ zl.length → filsP (zl.take k) = (List.range (filN (ps.take k))).map fun j : Nat => 5 * (j : Int) := by
    intro k
    induction k with
    | zero => intro _; simp [filsP, filN]
    | succ k ih =>
      intro hk
      have hlen := All2.length h1
      have hi : k < zl.length := by omega
      have hp : k < ps.length := by omega
      rw [List.take_add_one, List.getElem?_eq_getElem hi, List.take_add_one, List.getElem?_eq_getElem hp]
      show filsP (zl.take k ++ [zl[k]]) = (List.range (filN (ps.take k ++ [ps[k]]))).map _
      rw [filsP_snoc, filN_snoc, ih (by omega)]
      have hg := gen_get h1 h2 hl k hi
      have hA := h1.get k hi hp
      by_cases h0 : zl[k].k = 0
      · rw [if_pos h0, if_pos (by rw [← hA.k]; exact h0), List.range_succ, List.map_append, hg.2.2.2.1 h0]; rfl
      · rw [if_neg h0, if_neg (by rw [← hA.k]; exact h0)]; simp
  have hlen := All2.length h1
  have := key zl.length (Nat.le_refl _)
  rw [List.take_length] at this
  rw [this, hlen, List.take_length]
theorem nodup_5 (n : Nat) : ((List.range n).map fun j : Nat => 5 * (j : Int)).Nodup := by
  refine List.Pairwise.map _ (fun a b h => ?_) List.nodup_range
  intro e
  exact h (by omega)
theorem gen_TL {I : Mem} {zl : List Ac} (h : Gen18 I zl) (hl : zl.length ≤ 14) : TL zl := by
  obtain ⟨ps, h1, h2⟩ := h
  have hg := fun i hi => gen_get h1 h2 (by omega) i hi
  refine ⟨fun x hx => ?_, ?_, ?_⟩
  · obtain ⟨i, hi, rfl⟩ := List.mem_iff_getElem.1 hx
    exact (hg i hi).1
  · rw [List.pairwise_iff_getElem]
    intro i j hi hj hij
    right
    rw [(hg i hi).2.2.2.2.2, (hg j hj).2.2.2.2.2]
    omega
  · rw [filsP_gen h1 h2 (by omega)]
    exact nodup_5 _
theorem scr_TA {l : List Int} {x : Ac} (h : x ∈ scrP l) : TA x ∧ x.d < 135 := by
  rcases scrP_mem h with rfl | rfl | h
  · exact ⟨⟨fun h => absurd h (by decide), fun _ => ⟨⟨by decide, by decide⟩, by decide, by decide⟩, by decide, by decide⟩, by decide⟩
  · exact ⟨⟨fun h => absurd h (by decide), fun _ => ⟨⟨by decide, by decide⟩, by decide, by decide⟩, by decide, by decide⟩, by decide⟩
  · have h1 := h.d1
    have h2 := h.d2
    refine ⟨⟨fun hk => ?_, fun hk => ?_, by omega, by omega⟩, by omega⟩
    · obtain ⟨q1, q2, q3, q4, q5⟩ := h.tr hk
      exact ⟨q1, q2, by omega, by omega, q5⟩
    · rcases h.kd with e | e | e <;> omega
theorem filsP_scr (l : List Int) : filsP (scrP l) = [2, 7] := by
  unfold scrP
  rw [filsP_append]
  have e : filsP ((List.range (scrN l)).map (actP l)) = [] := by
    rw [List.eq_nil_iff_forall_not_mem]
    intro f hf
    obtain ⟨x, hx, hk, -⟩ := mem_filsP.1 hf
    have : SAct x := by
      rcases scrP_mem (show x ∈ scrP l from List.mem_append_right _ hx) with e | e | e
      · obtain ⟨i, -, rfl⟩ := List.mem_map.1 hx
        exact (actP_s l i).1
      · obtain ⟨i, -, rfl⟩ := List.mem_map.1 hx
        exact (actP_s l i).1
      · exact e
    rcases this.kd with h | h | h <;> omega
  rw [e]
  rfl
theorem scr_TL (l : List Int) : TL (scrP l) := ⟨fun _ hx => (scr_TA hx).1, scrP_key l, by rw [filsP_scr]; decide⟩
theorem both_TL {I : Mem} {zl : List Ac} (l : List Int) (h : Gen18 I zl) (hl : zl.length ≤ 8) : TL (zl ++ scrP l) := by
  have hT := gen_TL h (by omega)
  obtain ⟨ps, h1, h2⟩ := h
  have hg := fun i hi => gen_get h1 h2 (by omega) i hi
  refine ⟨fun x hx => ?_, ?_, ?_⟩
  · rcases List.mem_append.1 hx with h | h
    · exact hT.all x h
    · exact (scr_TA h).1
  · rw [List.pairwise_append]
    refine ⟨hT.key, scrP_key l, fun x hx y hy => ?_⟩
    obtain ⟨i, hi, rfl⟩ := List.mem_iff_getElem.1 hx
    left
    have := (scr_TA hy).2
    have := (hg i hi).2.1
    omega
  · rw [filsP_append, List.nodup_append]
    refine ⟨hT.fil, by rw [filsP_scr]; decide, fun a ha b hb e => ?_⟩
    rw [filsP_gen h1 h2 (by omega)] at ha
    obtain ⟨j, -, rfl⟩ := List.mem_map.1 ha
    rw [filsP_scr] at hb
    simp only [List.mem_cons, List.not_mem_nil, or_false] at hb
    omega
theorem TL.ok {xs : List Ac} (h : TL xs) (hl : xs.length < 40) : TOk xs := by
  refine ⟨h.key, fun x hx hk => ⟨((h.all x hx).tr hk).1, by have := ((h.all x hx).tr hk).2.1; omega⟩, hl, fun file day f k hf hk => ?_⟩
  have hmem : f ∈ xs := (sortK_perm xs).subset (List.mem_of_find?_eq_some hf)
  have hk0 : f.k = 0 := by
    have := List.find?_some hf
    unfold isFiling at this
    simp only [Bool.and_eq_true, decide_eq_true_eq] at this
    exact this.1
  have hp := ((h.all f hmem).fi hk0).1
  exact walkT_sup file f.d day _ (sortK xs) 0 (first1 f.p) () (ShSup.first ⟨by omega, by omega⟩) (fun x hx hk => by
    obtain ⟨-, -, q1, q2, -⟩ := (h.all x ((sortK_perm xs).subset hx)).tr hk
    exact ⟨⟨by omega, by omega⟩, by omega, by omega⟩) k hk
end PA
