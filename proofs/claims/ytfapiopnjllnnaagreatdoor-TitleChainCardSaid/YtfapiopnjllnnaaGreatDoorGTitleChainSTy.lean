/- TitleChain in plain: what a chain is. No program in sight. -/
import Derived.Test.YtfapiopnjllnnaaGreatDoorGTitleChainSTx
import Derived.Test.YtfapiopnjllnnaaGreatDoorGTitleChainSTh
namespace Go.Proofs.YtfapiopnjllnnaaGreatDoor
open Go PA
abbrev Stp := Nat × Ac
def leadL (party : Int) (L : List Stp) : (Int → Bool) × List Int := L.foldr (fun s st => chS st s) (fun k => decide (k = party), [])
def leads (party : Int) (L : List Stp) (k : Int) : Bool := (leadL party L).1 k
/-- The steps that are chosen. -/
def chL (party : Int) : List Stp → List Stp
  | [] => []
  | s :: L => if leads party L s.2.q = true then s :: chL party L else chL party L
theorem leads_nil (party k : Int) : leads party [] k = decide (k = party) := rfl
theorem leads_cons (party : Int) (s : Stp) (L : List Stp) (k : Int) : leads party (s :: L) k = if leads party L s.2.q = true then (decide (k = s.2.p) || leads party L k) else leads party L k := by
  unfold leads leadL
  rw [List.foldr_cons]
  unfold chS
  split <;> rfl
theorem chL_out (party : Int) : ∀ L : List Stp, (leadL party L).2 = ((chL party L).map fun s => (s.1 : Int)).reverse
  | [] => rfl
  | s :: L => by
    have ih := chL_out party L
    have e : leadL party (s :: L) = chS (leadL party L) s := rfl
    rw [e, chL]
    unfold chS
    by_cases h : leads party L s.2.q = true
    · rw [if_pos h, if_pos (show (leadL party L).1 s.2.q = true from h), List.map_cons, List.reverse_cons, ih]
    · rw [if_neg h, if_neg (show ¬ (leadL party L).1 s.2.q = true from h), ih]
theorem chainT_eq (file day party : Int) (f : Ac) (xs : List Ac) : chainT file day party f xs = (chL party (doneT file day f xs)).map fun s => (s.1 : Int) := by
  unfold chainT
  rw [List.foldl_reverse]
  have := chL_out party (doneT file day f xs)
  unfold leadL at this
  rw [this, List.reverse_reverse]
theorem leads_iff (party : Int) : ∀ (L : List Stp) (k : Int), leads party L k = true ↔ k = party ∨ ∃ s ∈ chL party L, s.2.p = k
  | [], k => by rw [leads_nil]; simp [chL]
  | s :: L, k => by
    rw [leads_cons, chL]
    have ih := leads_iff party L k
    by_cases h : leads party L s.2.q = true
    · rw [if_pos h, if_pos h, Bool.or_eq_true, decide_eq_true_eq, ih]
      constructor
      · rintro (h1 | h1 | ⟨t, h2, h3⟩)
        · exact .inr ⟨s, by simp, h1.symm⟩
        · exact .inl h1
        · exact .inr ⟨t, by simp [h2], h3⟩
      · rintro (h1 | ⟨t, h2, h3⟩)
        · exact .inr (.inl h1)
        · rcases List.mem_cons.1 h2 with rfl | h2
          · exact .inl h3.symm
          · exact .inr (.inr ⟨t, h2, h3⟩)
    · rw [if_neg h, if_neg h, ih]
theorem leads_mono (party : Int) (s : Stp) (L : List Stp) (k : Int) (h : leads party L k = true) : leads party (s :: L) k = true := by
  rw [leads_cons]
  split
  · rw [h, Bool.or_true]
  · exact h
theorem leads_mono' (party : Int) : ∀ (A L : List Stp) (k : Int), leads party L k = true → leads party (A ++ L) k = true
  | [], _, _, h => h
  | a :: A, L, k, h => leads_mono party a (A ++ L) k (leads_mono' party A L k h)
/-- Each step leads to a later one, or to the party. -/
def GoodC (party : Int) : List Stp → Prop
  | [] => True
  | s :: B => (s.2.q = party ∨ ∃ t ∈ B, t.2.p = s.2.q) ∧ GoodC party B
theorem chL_good (party : Int) : ∀ L : List Stp, GoodC party (chL party L)
  | [] => trivial
  | s :: L => by
    rw [chL]
    split
    · rename_i h
      exact ⟨(leads_iff party L s.2.q).1 h, chL_good party L⟩
    · exact chL_good party L
theorem GoodC.at {party : Int} : ∀ {C : List Stp}, GoodC party C → ∀ (k : Nat) (hk : k < C.length), C[k].2.q = party ∨ ∃ t ∈ C.drop (k + 1), t.2.p = C[k].2.q
  | [], _, k, hk => by simp at hk
  | s :: B, h, 0, _ => h.1
  | s :: B, h, k + 1, hk => GoodC.at h.2 k (by simpa using hk)
theorem GoodC.last {party : Int} : ∀ {C : List Stp}, GoodC party C → ∀ (h0 : 0 < C.length), (C[C.length - 1]'(by omega)).2.q = party := by
  intro C h h0
  rcases h.at (C.length - 1) (by omega) with h1 | ⟨t, h1, -⟩
  · exact h1
  · rw [List.drop_eq_nil_of_le (by omega)] at h1; cases h1
theorem chL_head (party : Int) : ∀ (L : List Stp) (h : Stp) (t : List Stp), chL party L = h :: t → ∃ A B, L = A ++ h :: B ∧ leads party B h.2.q = true ∧ ∀ a ∈ A, leads party (h :: B) a.2.q = false
  | [], _, _, e => by cases e
  | s :: L, h, t, e => by
    rw [chL] at e
    by_cases hs : leads party L s.2.q = true
    · rw [if_pos hs] at e
      cases e
      exact ⟨[], L, rfl, hs, fun a ha => by cases ha⟩
    · rw [if_neg hs] at e
      obtain ⟨A, B, rfl, h1, h2⟩ := chL_head party L h t e
      refine ⟨s :: A, B, rfl, h1, fun a ha => ?_⟩
      rcases List.mem_cons.1 ha with rfl | ha
      · cases hl : leads party (h :: B) a.2.q with
        | false => rfl
        | true => exact absurd (leads_mono' party A (h :: B) _ hl) hs
      · exact h2 a ha
theorem chL_ne {party : Int} : ∀ {L : List Stp}, (∃ s ∈ L, s.2.q = party) → chL party L ≠ []
  | [], ⟨_, h, _⟩ => by cases h
  | s :: L, ⟨t, h1, h2⟩ => by
    rw [chL]
    have hp : leads party L party = true := (leads_iff party L party).2 (.inl rfl)
    rcases List.mem_cons.1 h1 with rfl | h1
    · rw [h2, if_pos hp]; simp
    · split
      · simp
      · exact chL_ne ⟨t, h1, h2⟩
/-- Each step's party has got something before, unless it is the first one. -/
def Fed (s : List Stp) : Prop := ∀ A t B, s = A ++ t :: B → t.2.p = 1 ∨ ∃ a ∈ A, a.2.q = t.2.p
theorem Fed.snoc {s : List Stp} (h : Fed s) {t : Stp} (ht : t.2.p = 1 ∨ ∃ a ∈ s, a.2.q = t.2.p) : Fed (s ++ [t]) := by
  intro A u B e
  rcases List.eq_nil_or_concat B with rfl | ⟨B', z, rfl⟩
  · obtain ⟨rfl, h2⟩ := List.append_inj' e rfl
    cases h2
    exact ht
  · have e2 : s ++ [t] = (A ++ u :: B') ++ [z] := by rw [e]; simp
    obtain ⟨h1, -⟩ := List.append_inj' e2 rfl
    exact h A u B' h1
theorem sub_pos {a b r : Rt} (h : subR a b = (r, 0)) (hr : 0 ≤ r.n) (hb : 0 < b.n) : 0 < a.n := by
  have hv := addR_valid (a := a) (b := negR b) h
  have e2 : newR (a.n * (negR b).d + (negR b).n * a.d) (a.d * (negR b).d) = (r, 0) := by
    have : addR a (negR b) = (r, 0) := h
    rw [← this]; unfold addR; rw [if_pos ⟨hv.2.1, hv.2.2⟩]
  have d1 := (okR_spec hv.2.1).1.d1
  have d2 := (okR_spec hv.2.2).1.d1
  have hn := newR_ok e2 (Int.mul_pos (by omega) (by omega))
  have hnum : 0 ≤ a.n * (negR b).d + (negR b).n * a.d := by
    rcases Int.lt_trichotomy (a.n * (negR b).d + (negR b).n * a.d) 0 with z | z | z
    · exfalso
      rcases Int.lt_trichotomy r.n 0 with y | y | y
      · omega
      · have := hn.2.1.1 y; omega
      · have := hn.2.2.1 y; omega
    · omega
    · omega
  have hbd : (negR b).d = b.d := rfl
  have hbn : (negR b).n = -b.n := rfl
  rw [hbd, hbn] at hnum
  rw [hbd] at d2
  have h3 : 0 < b.n * a.d := Int.mul_pos hb (by omega)
  have h4 : (-b.n) * a.d = -(b.n * a.d) := by rw [Int.neg_mul]
  rw [h4] at hnum
  have h5 : 0 < a.n * b.d := by omega
  rcases Int.lt_trichotomy a.n 0 with z | z | z
  · have := Int.mul_neg_of_neg_of_pos z (show 0 < b.d by omega); omega
  · rw [z] at h5; simp at h5
  · exact z
def Got (S : Shs) (s : List Stp) : Prop := ∀ k, 0 < (shareP S k).n → k = 1 ∨ ∃ t ∈ s, t.2.q = k
theorem Got.wk {S : Shs} {s : List Stp} (h : Got S s) (t : Stp) : Got S (s ++ [t]) := fun k hk => by
  rcases h k hk with h1 | ⟨u, h1, h2⟩
  · exact .inl h1
  · exact .inr ⟨u, List.mem_append_left _ h1, h2⟩
theorem walkD_fed (file fday day : Int) : ∀ (l : List Ac) (i : Nat) (S : Shs) (s : List Stp), Got S s → Fed s → (∀ x ∈ l, x.k = 16 → 0 < x.sn) → Got (walkT file fday day evD i l S s).1 (walkT file fday day evD i l S s).2 ∧ Fed (walkT file fday day evD i l S s).2
  | [], _, _, _, h1, h2, _ => ⟨h1, h2⟩
  | x :: l, i, S, s, h1, h2, hl => by
    rw [walkT]
    split
    · by_cases hk : x.k = 16
      · have e1 : PA.stepT S x = moveP S x := by unfold PA.stepT; rw [if_pos hk]
        rw [e1]
        by_cases hd : (moveP S x).2 = true
        · have he : evD s i x (moveP S x).2 = s ++ [(i, x)] := by unfold evD; rw [if_pos ⟨hk, hd⟩]
          rw [he]
          have hm : moveP S x = (setSh (setSh S x.p (subR (shareP S x.p) x.sh).1) x.q (addR (shareP S x.q) x.sh).1, true) ∧ (subR (shareP S x.p) x.sh).2 = 0 ∧ 0 ≤ (subR (shareP S x.p) x.sh).1.n := by
            unfold moveP at hd ⊢
            split at hd
            · cases hd
            · rename_i q1
              split at hd
              · cases hd
              · rename_i q2
                rw [if_neg q1, if_neg q2]
                refine ⟨rfl, ?_, ?_⟩
                · exact Classical.byContradiction fun e => q1 (.inl e)
                · rcases Int.lt_or_le (subR (shareP S x.p) x.sh).1.n 0 with z | z
                  · exact absurd (.inr z) q1
                  · exact z
          have hpp : 0 < (shareP S x.p).n := sub_pos (Prod.ext rfl hm.2.1) hm.2.2 (hl x (by simp) hk)
          have hfrom := h1 x.p hpp
          refine walkD_fed file fday day l (i + 1) _ _ ?_ (h2.snoc hfrom) fun y hy => hl y (by simp [hy])
          rw [hm.1]
          intro k hk'
          by_cases e2 : k = x.q
          · exact .inr ⟨(i, x), by simp, e2.symm⟩
          · by_cases e3 : k = x.p
            · rcases hfrom with h3 | ⟨u, h3, h4⟩
              · exact .inl (by rw [e3, h3])
              · exact .inr ⟨u, List.mem_append_left _ h3, by rw [h4, e3]⟩
            · have e4 : shareP (setSh (setSh S x.p (subR (shareP S x.p) x.sh).1) x.q (addR (shareP S x.q) x.sh).1) k = shareP S k := by
                unfold shareP setSh; simp only [e2, e3, if_false]
              have hk2 : 0 < (shareP S k).n := by rw [← e4]; exact hk'
              exact (h1.wk (i, x)) k hk2
        · have he : evD s i x (moveP S x).2 = s := by unfold evD; rw [if_neg (fun e => hd e.2)]
          have hS : (moveP S x).1 = S := by
            unfold moveP at hd ⊢
            split
            · rfl
            · rename_i q1
              split
              · rfl
              · rename_i q2
                rw [if_neg q1, if_neg q2] at hd
                exact absurd rfl hd
          rw [he, hS]
          exact walkD_fed file fday day l (i + 1) _ _ h1 h2 fun y hy => hl y (by simp [hy])
      · have e1 : (PA.stepT S x).1 = S := by unfold PA.stepT; rw [if_neg hk]
        have he : evD s i x (PA.stepT S x).2 = s := by unfold evD; rw [if_neg (fun e => hk e.1)]
        rw [e1, he]
        exact walkD_fed file fday day l (i + 1) _ _ h1 h2 fun y hy => hl y (by simp [hy])
    · exact walkD_fed file fday day l (i + 1) _ _ h1 h2 fun y hy => hl y (by simp [hy])
theorem walkD_mem (file fday day : Int) : ∀ (l : List Ac) (i : Nat) (S : Shs) (s : List Stp), ∀ t ∈ (walkT file fday day evD i l S s).2, t ∈ s ∨ ∃ j, l[j]? = some t.2 ∧ t.1 = i + j ∧ t.2.k = 16 ∧ countsB file fday day t.2 = true
  | [], _, _, _, t, ht => .inl ht
  | x :: l, i, S, s, t, ht => by
    rw [walkT] at ht
    have up : (∃ j, l[j]? = some t.2 ∧ t.1 = i + 1 + j ∧ t.2.k = 16 ∧ countsB file fday day t.2 = true) → ∃ j, (x :: l)[j]? = some t.2 ∧ t.1 = i + j ∧ t.2.k = 16 ∧ countsB file fday day t.2 = true := by
      rintro ⟨j, h1, h2, h3⟩
      exact ⟨j + 1, by simpa using h1, by omega, h3⟩
    split at ht
    · rename_i hc
      rcases walkD_mem file fday day l _ _ _ t ht with h1 | h1
      · unfold evD at h1
        split at h1
        · rename_i h2
          rcases List.mem_append.1 h1 with h1 | h1
          · exact .inl h1
          · rw [List.mem_singleton.1 h1]
            exact .inr ⟨0, rfl, rfl, h2.1, hc⟩
        · exact .inl h1
      · exact .inr (up h1)
    · rcases walkD_mem file fday day l _ _ _ t ht with h1 | h1
      · exact .inl h1
      · exact .inr (up h1)
theorem chL_sub (party : Int) : ∀ (L : List Stp) (t : Stp), t ∈ chL party L → t ∈ L
  | [], t, h => by cases h
  | s :: L, t, h => by
    rw [chL] at h
    split at h
    · rcases List.mem_cons.1 h with rfl | h
      · simp
      · exact List.mem_cons_of_mem _ (chL_sub party L t h)
    · exact List.mem_cons_of_mem _ (chL_sub party L t h)
/-- The law in plain. -/
theorem chain_law (l : List Int) (d party : Int) (hpos : 0 < (shareP (scrS l d) party).n) (hne : party ≠ 1) :
    (∀ t ∈ chL party (doneT 2 d fil2 (scrP l)), (sortK (scrP l))[t.1]? = some t.2 ∧ t.2.k = 16 ∧ t.2.f = 2 ∧ t.2.d ≤ d) ∧ GoodC party (chL party (doneT 2 d fil2 (scrP l))) ∧
    ∃ h t, chL party (doneT 2 d fil2 (scrP l)) = h :: t ∧ h.2.p = 1 := by
  have hg : Got (first1 1) [] := fun k hk => by
    unfold shareP first1 setSh at hk
    by_cases e : k = 1
    · exact .inl e
    · rw [if_neg e] at hk; exact absurd hk (show ¬ (0 : Int) < 0 by omega)
  have hf : Fed [] := fun A t B e => by cases A <;> cases e
  have hsn : ∀ x ∈ sortK (scrP l), x.k = 16 → 0 < x.sn := fun x hx hk => (scrP_tr ((sortK_perm _).subset hx) hk).2.1
  obtain ⟨h1, h2⟩ := walkD_fed 2 100 d (sortK (scrP l)) 0 (first1 1) [] hg hf hsn
  have eS : (walkT 2 100 d evD 0 (sortK (scrP l)) (first1 1) []).1 = scrS l d := by rw [walkT_foldl]; rfl
  have eD : (walkT 2 100 d evD 0 (sortK (scrP l)) (first1 1) []).2 = doneT 2 d fil2 (scrP l) := rfl
  rw [eS, eD] at h1
  rw [eD] at h2
  refine ⟨fun t ht => ?_, chL_good _ _, ?_⟩
  · rcases walkD_mem 2 100 d (sortK (scrP l)) 0 (first1 1) [] t (chL_sub _ _ t ht) with h3 | ⟨j, h3, h4, h5, h6⟩
    · cases h3
    · rw [Nat.zero_add] at h4
      unfold countsB at h6
      simp only [Bool.and_eq_true, decide_eq_true_eq] at h6
      exact ⟨by rw [h4]; exact h3, h5, h6.2.1, h6.2.2.2.1⟩
  · rcases h1 party hpos with h3 | ⟨t, h3, h4⟩
    · exact absurd h3 hne
    · cases hc : chL party (doneT 2 d fil2 (scrP l)) with
      | nil => exact absurd hc (chL_ne ⟨t, h3, h4⟩)
      | cons h u =>
        refine ⟨h, u, rfl, ?_⟩
        obtain ⟨A, B, e, h5, h6⟩ := chL_head party _ h u hc
        rcases h2 A h B e with h7 | ⟨a, h7, h8⟩
        · exact h7
        · have h9 := h6 a h7
          rw [h8, leads_cons, if_pos h5] at h9
          simp at h9
end Go.Proofs.YtfapiopnjllnnaaGreatDoor
