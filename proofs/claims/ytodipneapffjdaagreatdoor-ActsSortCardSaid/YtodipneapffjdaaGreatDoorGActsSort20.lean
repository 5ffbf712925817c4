/- A group of effects walked as a tree: at each place the effects that are ready. Plain Lean, no program in sight. -/
import Derived.Test.YtodipneapffjdaaGreatDoorGActsSortSReg11
import Derived.Test.YtodipneapffjdaaGreatDoorGActsSort16
namespace PA
open Go Go.RowKit
section
variable {P : Program} {ops : Array Oper} {Q : Exit → Act → World → Prop} {S : World → Prop}
theorem J_grp {b : Bool} {E : List (Nat × List Nat)} {l : List ItG} {K : Act → World → Prop} {a : Act} {w : World} {n : Nat} (hn : E.length = n) (h : wpGrpG P ops Q S b n E (wpJ P ops Q S l K) a w) : wpJ P ops Q S (.grp b E :: l) K a w := by
  subst hn; exact h
end
end PA
/- A group of effects that stand in a partial order: what each one does is said once, for whatever of the others has been done. Plain Lean, no program in sight. -/
namespace PA
open Go Go.RowKit
section
variable {P : Program} {ops : Array Oper} {Q : Exit → Act → World → Prop} {S : World → Prop} {W : World}
/-- The frame in which the operations of L stand done, as f says. -/
def putF (ops : Array Oper) (L : List Nat) (f : Nat → Option Value) (a : Act) : Act := L.foldl (fun a x => match f x with | some v => a.put (dstOf ops x) v | none => a) a
theorem putF_nil (f : Nat → Option Value) (a : Act) : putF ops [] f a = a := rfl
theorem putF_cons (x : Nat) (L : List Nat) (f : Nat → Option Value) (a : Act) : putF ops (x :: L) f a = putF ops L f (match f x with | some v => a.put (dstOf ops x) v | none => a) := rfl
def setF (f : Nat → Option Value) (x : Nat) (v : Value) : Nat → Option Value := fun y => if y = x then some v else f y
theorem setF_ne {f : Nat → Option Value} {x y : Nat} {v : Value} (h : y ≠ x) : setF f x v y = f y := by unfold setF; rw [if_neg h]
theorem setF_eq {f : Nat → Option Value} {x : Nat} {v : Value} : setF f x v x = some v := by unfold setF; rw [if_pos rfl]
def dstsApart (ops : Array Oper) (x y : Nat) : Prop := ∀ d, dstOf ops x = some d → dstOf ops y ≠ some d
theorem putF_put {x : Nat} {v : Value} (f : Nat → Option Value) : ∀ (L : List Nat), (∀ y ∈ L, dstsApart ops x y) → ∀ a : Act, putF ops L f (a.put (dstOf ops x) v) = (putF ops L f a).put (dstOf ops x) v
  | [], _, _ => rfl
  | y :: L, h, a => by
    rw [putF_cons, putF_cons]
    cases hy : f y with
    | none => exact putF_put f L (fun z hz => h z (List.mem_cons_of_mem _ hz)) a
    | some u =>
      show putF ops L f ((a.put (dstOf ops x) v).put (dstOf ops y) u) = (putF ops L f (a.put (dstOf ops y) u)).put (dstOf ops x) v
      rw [Act.put_comm a v u (h y (List.mem_cons_self ..)), putF_put f L (fun z hz => h z (List.mem_cons_of_mem _ hz))]
theorem putF_congr {f g : Nat → Option Value} : ∀ (L : List Nat), (∀ y ∈ L, f y = g y) → ∀ a : Act, putF ops L f a = putF ops L g a
  | [], _, _ => rfl
  | y :: L, h, a => by
    rw [putF_cons, putF_cons, h y (List.mem_cons_self ..)]
    exact putF_congr L (fun z hz => h z (List.mem_cons_of_mem _ hz)) _
theorem putF_set {x : Nat} {v : Value} {f : Nat → Option Value} : ∀ (L : List Nat), x ∈ L → L.Pairwise (dstsApart ops) → L.Nodup → f x = none → ∀ a : Act, putF ops L (setF f x v) a = (putF ops L f a).put (dstOf ops x) v
  | [], h, _, _, _, _ => by cases h
  | y :: L, h, hp, hn, hx, a => by
    obtain ⟨p1, p2⟩ := List.pairwise_cons.1 hp
    obtain ⟨n1, n2⟩ := List.nodup_cons.1 hn
    rw [putF_cons, putF_cons]
    by_cases e : x = y
    · subst e
      rw [setF_eq, hx]
      show putF ops L (setF f x v) (a.put (dstOf ops x) v) = (putF ops L f a).put (dstOf ops x) v
      rw [putF_congr L (g := f) (fun z hz => setF_ne (x := x) (v := v) (fun e => n1 (by rw [← e]; exact hz))), putF_put f L p1]
    · rw [setF_ne (Ne.symm e)]
      exact putF_set L ((List.mem_cons.1 h).resolve_left e) p2 n2 hx _
theorem put_size (a : Act) (d : Option Tmp) (v : Value) : (a.put d v).tmps.size = a.tmps.size := by
  cases d with
  | none => rfl
  | some d => simp [Act.put]
theorem eval_put_self {a b : Act} {t : Tmp} {v : Value} (h : a.tmps.size = b.tmps.size) : (a.put (some t) v).eval (.tmp t) = (b.put (some t) v).eval (.tmp t) := by
  simp [Act.put, Act.eval, Array.getElem?_setIfInBounds, h]
/-- Slots that an operation does not look at may be forgotten. -/
theorem putF_keep {f : Nat → Option Value} {t : Tmp} (keep : Nat → Bool) : ∀ (L : List Nat) (a b : Act), a.tmps.size = b.tmps.size → a.eval (.tmp t) = b.eval (.tmp t) → (∀ y ∈ L, keep y = false → dstOf ops y ≠ some t) → (putF ops L f a).eval (.tmp t) = (putF ops (L.filter keep) f b).eval (.tmp t)
  | [], _, _, _, h, _ => h
  | y :: L, a, b, hs, h, hL => by
    have hL' := fun z hz => hL z (List.mem_cons_of_mem _ hz)
    rw [putF_cons, List.filter_cons]
    by_cases hk : keep y = true
    · rw [if_pos hk, putF_cons]
      cases hf : f y with
      | none => exact putF_keep keep L _ _ hs h hL'
      | some v =>
        refine putF_keep keep L _ _ (by simp only [put_size, hs]) ?_ hL'
        by_cases hd : dstOf ops y = some t
        · simp only [hd]; exact eval_put_self hs
        · simp only
          rw [Act.eval_put fun d hd' e => hd (by rw [hd']; cases e; rfl), Act.eval_put fun d hd' e => hd (by rw [hd']; cases e; rfl)]
          exact h
    · rw [if_neg hk]
      have hk' : keep y = false := by simpa using hk
      have hd := hL y (List.mem_cons_self ..) hk'
      cases hf : f y with
      | none => exact putF_keep keep L _ _ hs h hL'
      | some v =>
        refine putF_keep keep L _ _ (by simp only [put_size, hs]) ?_ hL'
        simp only
        rw [Act.eval_put fun d hd' e => hd (by rw [hd']; cases e; rfl)]
        exact h
/-- What an operation does here. -/
def Does1 (P : Program) (o : Oper) (a : Act) (w : World) (Post : Value → World → Prop) : Prop :=
  (∃ v w', (execOp a.eval o).run P w = .ok (.value v) w' ∧ Post v w') ∨
  (∃ f args w1, (execOp a.eval o).run P w = .ok (.enter f args) w1 ∧ Calls P f args w1 fun e w' => ∃ v, e = .returned v ∧ Post v w')
theorem Does1.go {i : Nat} {o : Oper} {a : Act} {w : World} {Post : Value → World → Prop} (ho : ops[i]? = some o) (hg : o.guard = none) (h : Does1 P o a w Post) {K : Act → World → Prop}
    (hK : ∀ v w', Post v w' → K (a.put o.dst v) w') : Go.wpOp P ops Q i K a w := by
  unfold Go.wpOp
  have hw : Region.wanted o (yielded ops a.tmps) = true := by unfold Region.wanted; rw [hg]
  simp only [ho, hw, if_true]
  refine .inl ?_
  unfold Oper.wp
  rcases h with ⟨v, w', h1, h2⟩ | ⟨f, args, w1, h1, h2⟩
  · rw [h1]; exact hK v w' h2
  · rw [h1]
    refine Calls.mono h2 ?_
    rintro e w' ⟨v, rfl, h3⟩
    exact hK v w' h3
def dagB (ops : Array Oper) (E0 : List Nat) (D : Nat → List Nat) : Bool :=
  E0.all fun x => (match ops[x]? with
    | none => false
    | some o => o.guard.isNone && (match o.op with | .select .. => false | _ => true) && E0.all fun y => (D x).contains y || (match dstOf ops y with | some t => !(o.looksAt ops).contains t | none => true)) &&
    (D x).all fun d => E0.contains d && ((Region.before ops).getD x 0).testBit d
def dstsB (ops : Array Oper) : List Nat → Bool
  | [] => true
  | x :: L => (L.all fun y => match dstOf ops x with | some d => dstOf ops y != some d | none => true) && !L.contains x && dstsB ops L
theorem dstsB_ok : ∀ (L : List Nat), dstsB ops L = true → L.Pairwise (dstsApart ops) ∧ L.Nodup
  | [], _ => ⟨.nil, .nil⟩
  | x :: L, h => by
    simp only [dstsB, Bool.and_eq_true, List.all_eq_true, Bool.not_eq_true'] at h
    obtain ⟨⟨h1, h2⟩, h3⟩ := h
    obtain ⟨i1, i2⟩ := dstsB_ok L h3
    refine ⟨List.pairwise_cons.2 ⟨fun y hy d hd => ?_, i1⟩, List.nodup_cons.2 ⟨fun hm => ?_, i2⟩⟩
    · have := h1 y hy
      rw [hd] at this
      simpa using this
    · simp [hm] at h2
/-- THE RULE: the effects of a group in whatever order. T: what is held when f says what is done; D: what an operation looks at. -/
theorem wpGrpG_dag {a0 : Act} {b : Bool} {K : Act → World → Prop} (E0 : List Nat) (D : Nat → List Nat) (T : (Nat → Option Value) → Assn)
    (hB : dagB ops E0 D = true) (hdst : dstsB ops E0 = true) (hS : b = true → ∀ f w, Sat W w (T f) → S w)
    (hop : ∀ x ∈ E0, ∀ (f : Nat → Option Value) (w : World) (o : Oper), ops[x]? = some o → f x = none → (∀ d ∈ D x, (f d).isSome = true) → (∀ y ∈ E0, (f y).isSome = true → ∀ d ∈ D y, (f d).isSome = true) → Sat W w (T f) →
      Does1 P o (putF ops (E0.filter fun y => (D x).contains y) f a0) w (fun v w' => Sat W w' (T (setF f x v))))
    (hfin : ∀ (f : Nat → Option Value) (w : World), (∀ x ∈ E0, (f x).isSome = true) → Sat W w (T f) → K (putF ops E0 f a0) w) :
    ∀ (n : Nat) (E : List Nat) (f : Nat → Option Value) (w : World), E.length = n → E.Nodup → (∀ x, x ∈ E ↔ x ∈ E0 ∧ f x = none) → (∀ y ∈ E0, (f y).isSome = true → ∀ d ∈ D y, (f d).isSome = true) → Sat W w (T f) →
      wpGrpG P ops Q S b n (E.map fun x => (x, [])) K (putF ops E0 f a0) w := by
  obtain ⟨hpw, hnd⟩ := dstsB_ok E0 hdst
  have hB' := List.all_eq_true.1 hB
  intro n
  induction n with
  | zero =>
    intro E f w hl _ hE _ hT
    have he := List.eq_nil_of_length_eq_zero hl
    subst he
    refine hfin f w (fun x hx => ?_) hT
    cases hf : f x with
    | some v => rfl
    | none => have := (hE x).2 ⟨hx, hf⟩; cases this
  | succ n ih =>
    intro E f w hl hn hE hcl hT
    rintro ⟨x, js⟩ hxm hready
    obtain ⟨x', hx', e⟩ := List.mem_map.1 hxm
    cases e
    obtain ⟨hx0, hfx⟩ := (hE x).1 hx'
    have hb := hB' x hx0
    simp only [Bool.and_eq_true, List.all_eq_true] at hb
    obtain ⟨hb1, hb2⟩ := hb
    cases ho : ops[x]? with
    | none => rw [ho] at hb1; cases hb1
    | some o =>
      rw [ho] at hb1
      simp only [Bool.and_eq_true, List.all_eq_true, Bool.or_eq_true] at hb1
      obtain ⟨⟨hg, hs⟩, hlook⟩ := hb1
      have hg' : o.guard = none := by simpa using hg
      have hs' : ∀ cs b, o.op ≠ .select cs b := fun cs b e => by rw [e] at hs; cases hs
      have hdep : ∀ d ∈ D x, (f d).isSome = true := fun d hd => by
        have h1 := hb2 d hd
        simp only [List.contains_iff_mem] at h1
        cases hf : f d with
        | some v => rfl
        | none =>
          have hdE := (hE d).2 ⟨h1.1, hf⟩
          have := List.all_eq_true.1 hready (d, []) (List.mem_map.2 ⟨d, hdE, rfl⟩)
          simp only [h1.2] at this
          cases this
      have hd1 := hop x hx0 f w o ho hfx hdep hcl hT
      have hex : execOp (putF ops E0 f a0).eval o = execOp (putF ops (E0.filter fun y => (D x).contains y) f a0).eval o := by
        refine execOp_congr o hs' fun z hz => ?_
        cases z with
        | tmp t =>
          refine putF_keep _ E0 a0 a0 rfl rfl fun y hy hk hdt => ?_
          have := hlook y hy
          rw [hk, hdt] at this
          simp only [Bool.false_eq_true, false_or, Bool.not_eq_true', List.contains_eq_mem, decide_eq_false_iff_not] at this
          exact this (List.mem_append_left _ (List.mem_filterMap.2 ⟨.tmp t, by simpa using hz, rfl⟩))
        | _ => rfl
      have hd2 : Does1 P o (putF ops E0 f a0) w (fun v w' => Sat W w' (T (setF f x v))) := by
        unfold Does1 at hd1 ⊢
        rw [hex]; exact hd1
      refine hd2.go ho hg' fun v w' hT' => ⟨fun hb => hS hb _ w' hT', ?_⟩
      show wpGrpG P ops Q S b n _ K _ w'
      have hdo : o.dst = dstOf ops x := by unfold dstOf; rw [ho]; rfl
      rw [hdo, ← putF_set E0 hx0 hpw hnd hfx]
      have hel : ((E.map fun x => (x, ([] : List Nat))).erase (x, [])) = (E.erase x).map fun x => (x, ([] : List Nat)) := by
        clear hl hn hE hxm hready hx'
        induction E with
        | nil => rfl
        | cons y E ihE =>
          rw [List.map_cons, List.erase_cons, List.erase_cons]
          by_cases e : y = x
          · subst e; simp
          · have e1 : (y == x) = false := by simpa using e
            have e2 : ((y, ([] : List Nat)) == (x, [])) = false := by simp [e]
            rw [e1, e2]
            simp only [Bool.false_eq_true, if_false, List.map_cons, ihE]
      rw [hel]
      refine ih (E.erase x) (setF f x v) w' (by rw [List.length_erase_of_mem hx', hl]; rfl) (hn.erase x) (fun y => ?_) (fun y hy hys d hd => ?_) hT'
      · rw [hn.mem_erase_iff, hE]
        by_cases e : y = x
        · subst e; simp [setF_eq]
        · rw [setF_ne e]; simp [e]
      · by_cases e : d = x
        · subst e; rw [setF_eq]; rfl
        · rw [setF_ne e]
          by_cases e2 : y = x
          · subst e2; exact hdep d hd
          · rw [setF_ne e2] at hys
            exact hcl y hy hys d hd
end
end PA
/- The reference's alts of claims: the pair of two alternatives (a region that leaves the order of its effects open), said once. -/
namespace PA
open Go Go.RowKit
theorem Does1.mono {P : Program} {o : Oper} {a : Act} {w : World} {X Y : Value → World → Prop} (h : Does1 P o a w X) (hxy : ∀ v w', X v w' → Y v w') : Does1 P o a w Y := by
  rcases h with ⟨v, w', h1, h2⟩ | ⟨f, args, w1, h1, h2⟩
  · exact .inl ⟨v, w', h1, hxy v w' h2⟩
  · exact .inr ⟨f, args, w1, h1, h2.mono fun e w' ⟨v, e1, h3⟩ => ⟨v, e1, hxy v w' h3⟩⟩
theorem does_append {P : Program} {W w : World} {A : Assn} {o : Oper} {ac : Act} (s y : Operand) (t : TypeId) (ho : o.op = .call { callee := .builtin .append, args := #[s, y], argTypes := #[t, t] })
    (E k by_ : Nat) (z : Value) (ht : P.underlying t = some (.slice E)) (hi : (P.info? E).map (fun i => (i.zero, i.size, i.bytes)) = some (some z, k, by_)) (hzs : z.cells.size = k)
    {a : Option Addr} {n c : Nat} {xs : List Value} (hs : ac.eval s = .slice a n c) (h : Sat W w (sep (osl E k a n c xs) A))
    {x : Option Addr} {m cc : Nat} (hy : ac.eval y = .slice x m cc) (news : List Value) (hl : news.length = m * k) (hx0 : x = none → m = 0) (hx : ∀ b, x = some b → ∀ j u, news[j]? = some u → w.cell? (b.add j) = some u)
    (h1 : ∀ u ∈ news, u.oneCell' = true) (hby : (n + m) * by_ ≤ 140737488355328) (h63 : n + m ≤ maxLen) :
    Does1 P o ac w fun v w' => ∃ a' c', v = .slice a' (n + m) c' ∧ Sat W w' (sep (osl E k a' (n + m) c' (xs ++ news)) A) := by
  obtain ⟨i, hi1, hi2, hi3, hi4⟩ := info_parts hi
  obtain ⟨a', c', w', hr, hS⟩ := run_append_osl t o.type E k by_ i z ht hi1 hi2 hi3 hi4 hzs h x m cc news hl hx0 hx h1 h63 hby
  exact .inl ⟨_, w', exec_append s y t t ho (by rw [hs, hy]; exact hr), a', c', rfl, hS⟩
/-- What the region of a pair holds. -/
structure PairQ where
  J : Mem
  us : List Value
  a : Option Addr
  n : Nat
  c : Nat
structure PairP (J0 : Mem) (pa pb : List Fm) (f : Nat → Option Value) (q : PairQ) : Prop where
  le : Mem.le J0 q.J
  r5 : ∀ v, f 5 = some v → ∃ a n c, v = .slice a n c ∧ n = pa.length ∧ (rF.slice 4).rel q.J [.slice a n c] pa
  r11 : ∀ v, f 11 = some v → ∃ a n c, v = .slice a n c ∧ n = pb.length ∧ (rF.slice 4).rel q.J [.slice a n c] pb
  e0 : ∀ v, f 0 = some v → f 6 = none → v = .slice q.a q.n q.c ∧ q.n = 0 ∧ q.us = []
  e6 : ∀ v, f 6 = some v → f 12 = none → v = .slice q.a q.n q.c ∧ q.n = pa.length ∧ (rF.rows 4).rel q.J q.us pa
  e12 : ∀ v, f 12 = some v → v = .slice q.a q.n q.c ∧ q.n = pa.length + pb.length ∧ (rF.rows 4).rel q.J q.us (pa ++ pb)
  e13 : ∀ v, f 13 = some v → ∃ u, f 12 = some u ∧ v = .agg #[.int .i64 4, .int .i64 0, .slice none 0 0, u]
def pairE (E : Nat) (f : Nat → Option Value) (q : PairQ) : Assn := match f 0 with | some _ => osl E 4 q.a q.n q.c q.us | none => emp
def pairB (t : TypeId) (f : Nat → Option Value) : Assn := match f 14 with | some v => ex fun g : Nat => sep (fact (v = .pointer (some ⟨g, 0, none⟩))) (blk g (.cells #[.int .i64 0, .int .i64 0, .slice none 0 0, .slice none 0 0] t (0, 0))) | none => emp
def pairT (E : Nat) (t : TypeId) (J0 : Mem) (pa pb : List Fm) (Z : Assn) (f : Nat → Option Value) : Assn :=
  ex fun q : PairQ => sep (fact (PairP J0 pa pb f q)) (sep (kn q.J) (sep (pairE E f q) (sep (pairB t f) Z)))
theorem pairT_iff {W w : World} {E : Nat} {t : TypeId} {J0 : Mem} {pa pb : List Fm} {Z : Assn} {f : Nat → Option Value} : Sat W w (pairT E t J0 pa pb Z f) ↔ ∃ q, PairP J0 pa pb f q ∧ Sat W w (sep (kn q.J) (sep (pairE E f q) (sep (pairB t f) Z))) := by
  unfold pairT
  rw [Sat.ex]
  exact ⟨fun ⟨q, h⟩ => ⟨q, Sat.fact.1 h⟩, fun ⟨q, h⟩ => ⟨q, Sat.fact.2 h⟩⟩
theorem pairE_none {E : Nat} {f : Nat → Option Value} {q : PairQ} (h : f 0 = none) : pairE E f q = emp := by unfold pairE; rw [h]
theorem pairE_some {E : Nat} {f : Nat → Option Value} {q : PairQ} {v : Value} (h : f 0 = some v) : pairE E f q = osl E 4 q.a q.n q.c q.us := by unfold pairE; rw [h]
theorem pairB_none {t : TypeId} {f : Nat → Option Value} (h : f 14 = none) : pairB t f = emp := by unfold pairB; rw [h]
theorem pairB_some {t : TypeId} {f : Nat → Option Value} {v : Value} (h : f 14 = some v) : pairB t f = ex fun g : Nat => sep (fact (v = .pointer (some ⟨g, 0, none⟩))) (blk g (.cells #[.int .i64 0, .int .i64 0, .slice none 0 0, .slice none 0 0] t (0, 0))) := by unfold pairB; rw [h]
/-- The steps of a pair: what is held behind each. -/
theorem pair_0 {W w w' : World} {E : Nat} {t : TypeId} {J0 : Mem} {pa pb : List Fm} {Z : Assn} {f : Nat → Option Value} {g c : Nat} (h0 : f 0 = none) (h6 : f 6 = none) (h12 : f 12 = none)
    (hs : ∀ q : PairQ, PairP J0 pa pb f q → Sat W w (sep (kn q.J) (sep (pairB t f) Z)) → Sat W w' (sep (osl E 4 (some ⟨g, 0, none⟩) 0 c []) (sep (kn q.J) (sep (pairB t f) Z)))) (h : Sat W w (pairT E t J0 pa pb Z f)) :
    Sat W w' (pairT E t J0 pa pb Z (setF f 0 (.slice (some ⟨g, 0, none⟩) 0 c))) := by
  obtain ⟨q, hp, h1⟩ := pairT_iff.1 h
  rw [pairE_none h0, emp_sep] at h1
  have h2 := hs q hp h1
  refine pairT_iff.2 ⟨⟨q.J, [], some ⟨g, 0, none⟩, 0, c⟩, ⟨hp.le, fun v hv => hp.r5 v (by rwa [setF_ne (by decide)] at hv), fun v hv => hp.r11 v (by rwa [setF_ne (by decide)] at hv), fun v hv _ => ?_, fun v hv _ => ?_, fun v hv => ?_, fun v hv => by rw [setF_ne (by decide)] at hv ⊢; exact hp.e13 v hv⟩, ?_⟩
  · rw [setF_eq] at hv; cases hv; exact ⟨rfl, rfl, rfl⟩
  · rw [setF_ne (by decide), h6] at hv; cases hv
  · rw [setF_ne (by decide), h12] at hv; cases hv
  · rw [pairE_some setF_eq]
    have e : pairB t (setF f 0 (.slice (some ⟨g, 0, none⟩) 0 c)) = pairB t f := by unfold pairB; rw [setF_ne (by decide)]
    rw [e]
    exact h2.p1
theorem pair_call {W w' : World} {E : Nat} {t : TypeId} {J0 : Mem} {pa pb : List Fm} {Z : Assn} {f : Nat → Option Value} {x : Nat} {v : Value} (hx : x ≠ 0 ∧ x ≠ 6 ∧ x ≠ 12 ∧ x ≠ 14 ∧ x ≠ 13) {q : PairQ} {J' : Mem} (hp : PairP J0 pa pb f q) (hle : Mem.le q.J J')
    (h5 : x = 5 → ∃ a n c, v = .slice a n c ∧ n = pa.length ∧ (rF.slice 4).rel J' [.slice a n c] pa) (h11 : x = 11 → ∃ a n c, v = .slice a n c ∧ n = pb.length ∧ (rF.slice 4).rel J' [.slice a n c] pb)
    (h : Sat W w' (sep (kn J') (sep (pairE E f q) (sep (pairB t f) Z)))) : Sat W w' (pairT E t J0 pa pb Z (setF f x v)) := by
  obtain ⟨x0, x6, x12, x14, x13⟩ := hx
  refine pairT_iff.2 ⟨⟨J', q.us, q.a, q.n, q.c⟩, ⟨Mem.le_trans hp.le hle, fun u hu => ?_, fun u hu => ?_, fun u hu h6 => ?_, fun u hu h12 => ?_, fun u hu => ?_, fun u hu => by rw [setF_ne (Ne.symm x13)] at hu; rw [setF_ne (Ne.symm x12)]; exact hp.e13 u hu⟩, ?_⟩
  · by_cases e : x = 5
    · subst e; rw [setF_eq] at hu; cases hu; exact h5 rfl
    · rw [setF_ne (Ne.symm e)] at hu
      obtain ⟨a, n, c, e1, e2, e3⟩ := hp.r5 u hu
      exact ⟨a, n, c, e1, e2, (rF.slice 4).mono hle e3⟩
  · by_cases e : x = 11
    · subst e; rw [setF_eq] at hu; cases hu; exact h11 rfl
    · rw [setF_ne (Ne.symm e)] at hu
      obtain ⟨a, n, c, e1, e2, e3⟩ := hp.r11 u hu
      exact ⟨a, n, c, e1, e2, (rF.slice 4).mono hle e3⟩
  · rw [setF_ne (Ne.symm x0)] at hu
    rw [setF_ne (Ne.symm x6)] at h6
    exact hp.e0 u hu h6
  · rw [setF_ne (Ne.symm x6)] at hu
    rw [setF_ne (Ne.symm x12)] at h12
    obtain ⟨e1, e2, e3⟩ := hp.e6 u hu h12
    exact ⟨e1, e2, (rF.rows 4).mono hle e3⟩
  · rw [setF_ne (Ne.symm x12)] at hu
    obtain ⟨e1, e2, e3⟩ := hp.e12 u hu
    exact ⟨e1, e2, (rF.rows 4).mono hle e3⟩
  · have e1 : pairB t (setF f x v) = pairB t f := by unfold pairB; rw [setF_ne (Ne.symm x14)]
    have e2 : pairE E (setF f x v) ⟨J', q.us, q.a, q.n, q.c⟩ = pairE E f q := by unfold pairE; rw [setF_ne (Ne.symm x0)]
    rw [e1, e2]
    exact h
theorem pair_14 {W w w' : World} {E : Nat} {t : TypeId} {J0 : Mem} {pa pb : List Fm} {Z : Assn} {f : Nat → Option Value} {g : Nat} (h14 : f 14 = none)
    (hs : ∀ q : PairQ, Sat W w (sep (kn q.J) (sep (pairE E f q) Z)) → Sat W w' (sep (blk g (.cells #[.int .i64 0, .int .i64 0, .slice none 0 0, .slice none 0 0] t (0, 0))) (sep (kn q.J) (sep (pairE E f q) Z)))) (h : Sat W w (pairT E t J0 pa pb Z f)) :
    Sat W w' (pairT E t J0 pa pb Z (setF f 14 (.pointer (some ⟨g, 0, none⟩)))) := by
  obtain ⟨q, hp, h1⟩ := pairT_iff.1 h
  rw [pairB_none h14, emp_sep] at h1
  have h2 := hs q h1
  refine pairT_iff.2 ⟨q, ⟨hp.le, fun v hv => hp.r5 v (by rwa [setF_ne (by decide)] at hv), fun v hv => hp.r11 v (by rwa [setF_ne (by decide)] at hv), fun v hv h6 => hp.e0 v (by rwa [setF_ne (by decide)] at hv) (by rwa [setF_ne (by decide)] at h6), fun v hv h12 => hp.e6 v (by rwa [setF_ne (by decide)] at hv) (by rwa [setF_ne (by decide)] at h12), fun v hv => hp.e12 v (by rwa [setF_ne (by decide)] at hv), fun v hv => by rw [setF_ne (by decide)] at hv ⊢; exact hp.e13 v hv⟩, ?_⟩
  have e2 : pairE E (setF f 14 (.pointer (some ⟨g, 0, none⟩))) q = pairE E f q := by unfold pairE; rw [setF_ne (by decide)]
  rw [e2, pairB_some setF_eq]
  have h3 : Sat W w' (sep (ex fun g' : Nat => sep (fact (Value.pointer (some ⟨g, 0, none⟩) = .pointer (some ⟨g', 0, none⟩))) (blk g' (.cells #[.int .i64 0, .int .i64 0, .slice none 0 0, .slice none 0 0] t (0, 0)))) (sep (kn q.J) (sep (pairE E f q) Z))) := by
    rw [ex_sep, Sat.ex]
    exact ⟨g, by rw [sep_assoc]; exact Sat.fact.2 ⟨rfl, h2⟩⟩
  exact (Sat.q2 h3)
theorem pair_app {W w' : World} {E : Nat} {t : TypeId} {J0 : Mem} {pa pb : List Fm} {Z : Assn} {f : Nat → Option Value} {x : Nat} {a' : Option Addr} {n' c' : Nat} {us' : List Value} (hx : x = 6 ∨ x = 12) {q : PairQ} (hp : PairP J0 pa pb f q) {v0 : Value} (h0 : f 0 = some v0)
    (h6 : x = 6 → f 12 = none ∧ n' = pa.length ∧ (rF.rows 4).rel q.J us' pa) (h13 : f 13 = none) (h12 : x = 12 → (f 6).isSome = true ∧ n' = pa.length + pb.length ∧ (rF.rows 4).rel q.J us' (pa ++ pb))
    (h : Sat W w' (sep (osl E 4 a' n' c' us') (sep (kn q.J) (sep (pairB t f) Z)))) : Sat W w' (pairT E t J0 pa pb Z (setF f x (.slice a' n' c'))) := by
  have x0 : (0 : Nat) ≠ x := by rcases hx with rfl | rfl <;> decide
  have x5 : (5 : Nat) ≠ x := by rcases hx with rfl | rfl <;> decide
  have x11 : (11 : Nat) ≠ x := by rcases hx with rfl | rfl <;> decide
  have x14 : (14 : Nat) ≠ x := by rcases hx with rfl | rfl <;> decide
  have x13 : (13 : Nat) ≠ x := by rcases hx with rfl | rfl <;> decide
  refine pairT_iff.2 ⟨⟨q.J, us', a', n', c'⟩, ⟨hp.le, fun v hv => hp.r5 v (by rwa [setF_ne x5] at hv), fun v hv => hp.r11 v (by rwa [setF_ne x11] at hv), fun v hv e6 => ?_, fun v hv e12 => ?_, fun v hv => ?_, fun v hv => by rw [setF_ne x13, h13] at hv; cases hv⟩, ?_⟩
  · rcases hx with rfl | rfl
    · rw [setF_eq] at e6; cases e6
    · rw [setF_ne (by decide)] at e6
      have := (h12 rfl).1
      rw [e6] at this; cases this
  · rcases hx with rfl | rfl
    · rw [setF_eq] at hv; cases hv
      exact ⟨rfl, (h6 rfl).2.1, (h6 rfl).2.2⟩
    · rw [setF_eq] at e12; cases e12
  · rcases hx with rfl | rfl
    · rw [setF_ne (by decide), (h6 rfl).1] at hv; cases hv
    · rw [setF_eq] at hv; cases hv
      exact ⟨rfl, (h12 rfl).2.1, (h12 rfl).2.2⟩
  · have e1 : pairB t (setF f x (.slice a' n' c')) = pairB t f := by unfold pairB; rw [setF_ne x14]
    have e2 : pairE E (setF f x (.slice a' n' c')) ⟨q.J, us', a', n', c'⟩ = osl E 4 a' n' c' us' := pairE_some (v := v0) (by rw [setF_ne x0]; exact h0)
    rw [e1, e2]
    exact h.p1
theorem pair_13 {W w : World} {E : Nat} {t : TypeId} {J0 : Mem} {pa pb : List Fm} {Z : Assn} {f : Nat → Option Value} {u : Value} (h12 : f 12 = some u) (h : Sat W w (pairT E t J0 pa pb Z f)) :
    Sat W w (pairT E t J0 pa pb Z (setF f 13 (.agg #[.int .i64 4, .int .i64 0, .slice none 0 0, u]))) := by
  obtain ⟨q, hp, h1⟩ := pairT_iff.1 h
  refine pairT_iff.2 ⟨q, ⟨hp.le, fun v hv => hp.r5 v (by rwa [setF_ne (by decide)] at hv), fun v hv => hp.r11 v (by rwa [setF_ne (by decide)] at hv), fun v hv h6 => hp.e0 v (by rwa [setF_ne (by decide)] at hv) (by rwa [setF_ne (by decide)] at h6), fun v hv h12 => hp.e6 v (by rwa [setF_ne (by decide)] at hv) (by rwa [setF_ne (by decide)] at h12), fun v hv => hp.e12 v (by rwa [setF_ne (by decide)] at hv), fun v hv => ?_⟩, ?_⟩
  · rw [setF_eq] at hv; cases hv
    exact ⟨u, by rw [setF_ne (by decide)]; exact h12, rfl⟩
  · have e1 : pairB t (setF f 13 (.agg #[.int .i64 4, .int .i64 0, .slice none 0 0, u])) = pairB t f := by unfold pairB; rw [setF_ne (by decide)]
    have e2 : pairE E (setF f 13 (.agg #[.int .i64 4, .int .i64 0, .slice none 0 0, u])) q = pairE E f q := by unfold pairE; rw [setF_ne (by decide)]
    rw [e1, e2]
    exact h1
theorem fm4_set {W w : World} {A : Assn} {g : Nat} {a b c d : Value} {t : TypeId} (h : Sat W w (sep (blk g (.cells #[a, b, c, d] t (0, 0))) A)) (x y u v : Value) :
    Sat W ((((w.setCell ⟨g, 0, none⟩ x).setCell ⟨g, 1, none⟩ y).setCell ⟨g, 2, none⟩ u).setCell ⟨g, 3, none⟩ v) (sep (blk g (.cells #[x, y, u, v] t (0, 0))) A) := by
  have h1 := (((h.setCell 0 x).setCell 1 y).setCell 2 u).setCell 3 v
  simpa using h1
end PA
