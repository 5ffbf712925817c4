/- TitleStays in plain: licences that hold stay when later transfers are added. No program in sight. -/
import Derived.Test.YtfapiopnjllnnaaGreatDoorGTitleStaysSTn
import Derived.Test.YtfapiopnjllnnaaGreatDoorGTitleStaysSTh
namespace Go.Proofs.YtfapiopnjllnnaaGreatDoor
open Go PA
/-- A later transfer. -/
def shX (x : Ac) : Ac := if x.k = 16 then { x with d := x.d + 60, n := x.n + 100 } else x
def extP (l : List Ac) : List Ac := (l.filter fun x => decide (x.k = 16)).map shX
def stayP (l m : List Int) : List Ac := scrP l ++ extP (scrP m)
theorem extP_mem {l : List Ac} {y : Ac} (h : y ∈ extP l) : ∃ x ∈ l, x.k = 16 ∧ y = { x with d := x.d + 60, n := x.n + 100 } := by
  unfold extP at h
  obtain ⟨x, hx, rfl⟩ := List.mem_map.1 h
  have hx' := List.mem_filter.1 hx
  have hk : x.k = 16 := by simpa using hx'.2
  exact ⟨x, hx'.1, hk, by unfold shX; rw [if_pos hk]⟩
theorem scrP_n {l : List Int} {x : Ac} (h : x ∈ scrP l) : 0 ≤ x.n ∧ x.n ≤ 30 := by
  unfold scrP at h
  rcases List.mem_append.1 h with h | h
  · simp only [List.mem_cons, List.not_mem_nil, or_false] at h
    rcases h with rfl | rfl
    · decide
    · decide
  · obtain ⟨i, hi, rfl⟩ := List.mem_map.1 h
    have := scrN_le l
    have := List.mem_range.1 hi
    rw [(actP_s l i).2]
    omega
theorem stay_key (l m : List Int) : (stayP l m).Pairwise KeyNe := by
  unfold stayP
  rw [List.pairwise_append]
  refine ⟨scrP_key l, ?_, ?_⟩
  · unfold extP
    rw [List.pairwise_map]
    have h1 : ((scrP m).filter fun x => decide (x.k = 16)).Pairwise KeyNe := (scrP_key m).filter _
    refine h1.imp_of_mem ?_
    intro x y hx hy h
    have hx' : x.k = 16 := by simpa using (List.mem_filter.1 hx).2
    have hy' : y.k = 16 := by simpa using (List.mem_filter.1 hy).2
    unfold shX
    rw [if_pos hx', if_pos hy']
    unfold KeyNe at h ⊢
    show x.d + 60 ≠ y.d + 60 ∨ x.n + 100 ≠ y.n + 100
    omega
  · intro x hx y hy
    obtain ⟨z, hz, -, rfl⟩ := extP_mem hy
    have h1 := scrP_n hx
    have h2 := scrP_n hz
    refine .inr ?_
    show x.n ≠ z.n + 100
    omega
theorem stay_fine (l m : List Int) : ActsFine (stayP l m) := by
  intro x hx hk
  rcases List.mem_append.1 hx with h | h
  · exact scrP_fine l x h hk
  · obtain ⟨z, hz, hk', rfl⟩ := extP_mem h
    exact scrP_fine m z hz hk'
theorem stay_filed (l m : List Int) : filedT 2 (sortK (stayP l m)) = some fil2 := by
  unfold filedT
  refine find_one ((sortK_perm _).symm.subset (by simp [stayP, scrP])) (by decide) fun y hy hp => ?_
  rcases List.mem_append.1 ((sortK_perm _).subset hy) with h | h
  · rcases scrP_mem h with e | e | e
    · exact e
    · rw [e] at hp; exact absurd hp (by decide)
    · unfold isFiling at hp
      have hk : y.k = 0 := by simpa using (Bool.and_eq_true_iff.1 hp).1
      rcases e.kd with e | e | e <;> omega
  · obtain ⟨z, hz, hk', rfl⟩ := extP_mem h
    unfold isFiling at hp
    have hk : z.k = 0 := by simpa using (Bool.and_eq_true_iff.1 hp).1
    omega
theorem stay_err (l m : List Int) (day : Int) (h1 : 100 ≤ day) (h2 : day ≤ 131072) : titleErr 2 day (sortK (stayP l m)) = 0 := by
  unfold titleErr
  rw [if_neg (by omega), stay_filed]
  show (if day < 100 then 7 else 0) = 0
  rw [if_neg (by omega)]
theorem stay_len (l m : List Int) : (stayP l m).length < 40 := by
  have h1 := scrN_le l
  have h2 := scrN_le m
  have h3 : (extP (scrP m)).length ≤ (scrP m).length := by unfold extP; rw [List.length_map]; exact List.length_filter_le _ _
  unfold stayP
  rw [List.length_append, scrP_len]
  rw [scrP_len] at h3
  omega
/-! the walk as a fold, what it tells being told without indices -/
def stL (file fday day : Int) (ev : List Hl → Ac → Bool → List Hl) (p : Shs × List Hl) (x : Ac) : Shs × List Hl :=
  if countsB file fday day x = true then ((PA.stepT p.1 x).1, ev p.2 x (PA.stepT p.1 x).2) else p
def evLn (day : Int) (s : List Hl) (x : Ac) (dn : Bool) : List Hl := if x.k = 17 ∧ dn = true ∧ day ≤ x.u then s ++ [⟨x.p, x.q, x.d, x.u⟩] else s
def evA (s : List Hl) (x : Ac) (dn : Bool) : List Hl := if x.k = 17 ∧ dn = true then s ++ [⟨x.p, x.q, x.d, x.u⟩] else s
theorem walkT_fold (file fday day dq : Int) : ∀ (l : List Ac) (i : Nat) (S : Shs) (s : List Hl), walkT file fday day (evL dq) i l S s = l.foldl (stL file fday day (evLn dq)) (S, s)
  | [], _, _, _ => rfl
  | x :: l, i, S, s => by
    rw [walkT, List.foldl_cons]
    unfold stL
    split
    · exact walkT_fold file fday day dq l _ _ _
    · exact walkT_fold file fday day dq l _ _ _
theorem lic_filter (file fday day dq : Int) : ∀ (l : List Ac) (S : Shs) (s : List Hl), l.foldl (stL file fday day (evLn dq)) (S, s.filter fun h => decide (dq ≤ h.d)) = ((l.foldl (stL file fday day evA) (S, s)).1, (l.foldl (stL file fday day evA) (S, s)).2.filter fun h => decide (dq ≤ h.d))
  | [], _, _ => rfl
  | x :: l, S, s => by
    rw [List.foldl_cons, List.foldl_cons]
    have e : stL file fday day (evLn dq) (S, s.filter fun h => decide (dq ≤ h.d)) x = ((stL file fday day evA (S, s) x).1, (stL file fday day evA (S, s) x).2.filter fun h => decide (dq ≤ h.d)) := by
      unfold stL
      split
      · refine Prod.ext rfl ?_
        show evLn dq (s.filter fun h => decide (dq ≤ h.d)) x (PA.stepT S x).2 = (evA s x (PA.stepT S x).2).filter fun h => decide (dq ≤ h.d)
        unfold evLn evA
        by_cases h1 : x.k = 17 ∧ (PA.stepT S x).2 = true
        · rw [if_pos h1, List.filter_append]
          by_cases h2 : dq ≤ x.u
          · rw [if_pos ⟨h1.1, h1.2, h2⟩]; simp [h2]
          · rw [if_neg (fun e => h2 e.2.2)]; simp [h2]
        · rw [if_neg h1, if_neg (fun e => h1 ⟨e.1, e.2.1⟩)]
      · rfl
    rw [e]
    exact lic_filter file fday day dq l _ _
/-- All licences that have effect up to a day. -/
def evsT (day : Int) (xs : List Ac) : List Hl := ((sortK xs).foldl (stL 2 100 day evA) (first1 1, [])).2
theorem licT_evs (day : Int) (xs : List Ac) : licT 2 day fil2 xs = (evsT day xs).filter fun h => decide (day ≤ h.d) := by
  unfold licT evsT
  rw [walkT_fold]
  have := lic_filter 2 100 day day (sortK xs) (first1 1) []
  exact congrArg Prod.snd this
theorem foldl_filter (file fday day : Int) (p : Ac → Bool) : ∀ (l : List Ac) (s : Shs × List Hl), (∀ x ∈ l, p x = false → countsB file fday day x = false) → l.foldl (stL file fday day evA) s = (l.filter p).foldl (stL file fday day evA) s
  | [], _, _ => rfl
  | x :: l, s, h => by
    rw [List.foldl_cons]
    by_cases hp : p x = true
    · rw [List.filter_cons_of_pos hp, List.foldl_cons]
      exact foldl_filter file fday day p l _ fun y hy => h y (by simp [hy])
    · rw [List.filter_cons_of_neg hp]
      have e : stL file fday day evA s x = s := by unfold stL; rw [h x (by simp) (by simpa using hp)]; rfl
      rw [e]
      exact foldl_filter file fday day p l _ fun y hy => h y (by simp [hy])
theorem sortK_filter {xs ys : List Ac} (p : Ac → Bool) (h : xs.filter p = ys.filter p) (hk : xs.Pairwise KeyNe) : (sortK xs).filter p = (sortK ys).filter p := by
  refine asc_unique cmpK_ne _ _ ((sortK_asc xs).filter p) ((sortK_asc ys).filter p) ?_ ((pairwise_perm (fun _ _ => KeyNe.symm) (sortK_perm xs).symm hk).filter p)
  have h1 := (sortK_perm xs).filter p
  have h2 := (sortK_perm ys).filter p
  rw [h] at h1
  exact h1.trans h2.symm
theorem evs_stay (l m : List Int) (day : Int) (hd : day < 150) : evsT day (scrP l) = evsT day (stayP l m) := by
  unfold evsT
  have hp : ∀ x : Ac, decide (x.d ≤ day) = false → countsB 2 100 day x = false := fun x h => by
    unfold countsB; rw [h]; simp
  rw [foldl_filter 2 100 day (fun x => decide (x.d ≤ day)) (sortK (scrP l)) _ fun x _ h => hp x h, foldl_filter 2 100 day (fun x => decide (x.d ≤ day)) (sortK (stayP l m)) _ fun x _ h => hp x h]
  rw [sortK_filter (fun x => decide (x.d ≤ day)) ?_ (scrP_key l)]
  unfold stayP
  rw [List.filter_append]
  have : (extP (scrP m)).filter (fun x => decide (x.d ≤ day)) = [] := by
    rw [List.filter_eq_nil_iff]
    intro y hy
    obtain ⟨z, hz, hk, rfl⟩ := extP_mem hy
    rcases scrP_mem hz with rfl | rfl | hs
    · exact absurd hk (by decide)
    · exact absurd hk (by decide)
    · have := hs.d1
      simp only [decide_eq_true_eq]
      show ¬ z.d + 60 ≤ day
      omega
  rw [this, List.append_nil]
theorem evA_more (file fday day : Int) : ∀ (l : List Ac) (S : Shs) (s : List Hl), ∃ more, (l.foldl (stL file fday day evA) (S, s)).2 = s ++ more
  | [], _, s => ⟨[], by simp⟩
  | x :: l, S, s => by
    rw [List.foldl_cons]
    have e : ∃ S' m, stL file fday day evA (S, s) x = (S', s ++ m) := by
      unfold stL
      split
      · unfold evA
        split
        · exact ⟨_, _, rfl⟩
        · exact ⟨_, [], by rw [List.append_nil]⟩
      · exact ⟨S, [], by rw [List.append_nil]⟩
    obtain ⟨S', m, e⟩ := e
    rw [e]
    obtain ⟨more, hm⟩ := evA_more file fday day l S' (s ++ m)
    exact ⟨m ++ more, by rw [hm, List.append_assoc]⟩
theorem evA_prefix {file fday d1 d2 : Int} (h : d1 ≤ d2) : ∀ (l : List Ac) (S : Shs) (s : List Hl), l.Pairwise (fun x y => x.d ≤ y.d) → ∃ more, (l.foldl (stL file fday d2 evA) (S, s)).2 = (l.foldl (stL file fday d1 evA) (S, s)).2 ++ more
  | [], _, s, _ => ⟨[], by simp⟩
  | x :: l, S, s, hp => by
    have hp' := List.pairwise_cons.1 hp
    rcases Int.lt_or_le d1 x.d with hx | hx
    · have hall : ∀ (m : List Ac) (p : Shs × List Hl), (∀ y ∈ m, d1 < y.d) → m.foldl (stL file fday d1 evA) p = p := by
        intro m
        induction m with
        | nil => intro p _; rfl
        | cons y m ih =>
          intro p hm
          have e : countsB file fday d1 y = false := by
            unfold countsB
            rw [decide_eq_false (show ¬ y.d ≤ d1 by have := hm y (by simp); omega)]
            simp
          rw [List.foldl_cons]
          have e2 : stL file fday d1 evA p y = p := by unfold stL; rw [e]; rfl
          rw [e2]
          exact ih p fun z hz => hm z (by simp [hz])
      rw [hall (x :: l) (S, s) fun y hy => by
        rcases List.mem_cons.1 hy with rfl | hy
        · exact hx
        · have := hp'.1 y hy; omega]
      exact evA_more file fday d2 (x :: l) S s
    · rw [List.foldl_cons, List.foldl_cons]
      have e : stL file fday d2 evA (S, s) x = stL file fday d1 evA (S, s) x := by
        have e1 : countsB file fday d1 x = countsB file fday d2 x := by
          unfold countsB
          rw [decide_eq_true hx, decide_eq_true (show x.d ≤ d2 by omega)]
        unfold stL; rw [e1]
      rw [e]
      exact evA_prefix h l _ _ hp'.2
theorem evA_days (file fday day : Int) : ∀ (l : List Ac) (S : Shs) (s : List Hl), ∀ h ∈ (l.foldl (stL file fday day evA) (S, s)).2, h ∈ s ∨ h.c ≤ day
  | [], _, _, h, hh => .inl hh
  | x :: l, S, s, h, hh => by
    rw [List.foldl_cons] at hh
    obtain ⟨S', s', e⟩ : ∃ S' s', stL file fday day evA (S, s) x = (S', s') := ⟨_, _, rfl⟩
    rw [e] at hh
    rcases evA_days file fday day l S' s' h hh with h1 | h1
    · unfold stL at e
      split at e
      · rename_i hc
        unfold evA at e
        split at e
        · cases e
          rcases List.mem_append.1 h1 with h2 | h2
          · exact .inl h2
          · right
            rw [List.mem_singleton.1 h2]
            show x.d ≤ day
            unfold countsB at hc
            simp only [Bool.and_eq_true, decide_eq_true_eq] at hc
            exact hc.2.2.2.1
        · cases e; exact .inl h1
      · cases e; exact .inl h1
    · exact .inr h1
/-- The law in plain. -/
theorem stays_law (l m : List Int) {d e : Int} (hd : d < 150) (he : d ≤ e) :
    licT 2 d fil2 (scrP l) = licT 2 d fil2 (stayP l m) ∧ ∀ h ∈ licT 2 d fil2 (scrP l), (h ∈ licT 2 e fil2 (stayP l m) ↔ e ≤ h.d) ∧ h.c ≤ d ∧ d ≤ h.d := by
  refine ⟨by rw [licT_evs, licT_evs, evs_stay l m d hd], fun h hh => ?_⟩
  rw [licT_evs] at hh
  obtain ⟨h1, h2⟩ := List.mem_filter.1 hh
  have h2' : d ≤ h.d := by simpa using h2
  refine ⟨?_, ?_, h2'⟩
  · rw [licT_evs, List.mem_filter]
    constructor
    · rintro ⟨-, h4⟩; simpa using h4
    · intro h4
      refine ⟨?_, by simpa using h4⟩
      rw [evs_stay l m d hd] at h1
      obtain ⟨more, hm⟩ := evA_prefix (file := 2) (fday := 100) he (sortK (stayP l m)) (first1 1) [] (asc_days (sortK_asc _))
      unfold evsT at h1 ⊢
      rw [hm]
      exact List.mem_append_left _ h1
  · rcases evA_days 2 100 d (sortK (scrP l)) (first1 1) [] h h1 with h4 | h4
    · cases h4
    · exact h4
end Go.Proofs.YtfapiopnjllnnaaGreatDoor
