/- Effects that a region leaves unordered, said as threads beside each other: each step with what it takes and what it gives. Plain Lean, no program in sight. -/
import Derived.Test.YtfapiopnjllnnaaGreatDoorReg3
namespace PA
open Go Go.RowKit
section
variable {P : Program} {ops : Array Oper} {Q : Exit → Act → World → Prop} {S : World → Prop} {W : World}
/-- The operation takes Pre and gives a value and Post of it, whatever stands beside. -/
def DoesS (P : Program) (ops : Array Oper) (W : World) (o : Oper) (a : Act) (Pre : Assn) (Post : Value → Assn) : Prop :=
  Region.wanted o (yielded ops a.tmps) = true ∧ ∀ (w : World) (A : Assn), Sat W w (sep Pre A) →
    (∃ v w', (execOp a.eval o).run P w = .ok (.value v) w' ∧ Sat W w' (sep (Post v) A)) ∨
    (∃ f args w1, (execOp a.eval o).run P w = .ok (.enter f args) w1 ∧ Calls P f args w1 fun e w' => ∃ v, e = .returned v ∧ Sat W w' (sep (Post v) A))
theorem DoesS.put {o : Oper} {a : Act} {Pre : Assn} {Post : Value → Assn} (h : DoesS P ops W o a Pre Post) (hs : ∀ cs b, o.op ≠ .select cs b) {d : Option Tmp} (hd : ∀ t, d = some t → t ∉ o.looksAt ops) (v : Value) : DoesS P ops W o (a.put d v) Pre Post := by
  unfold DoesS at *
  rw [execOp_put o hs a d v hd, wanted_put o a d v hd]
  exact h
theorem DoesS.wpOp {i : Nat} {o : Oper} {a : Act} {Pre : Assn} {Post : Value → Assn} (ho : ops[i]? = some o) (h : DoesS P ops W o a Pre Post) {w : World} {A : Assn} (hw : Sat W w (sep Pre A)) {K : Act → World → Prop}
    (hK : ∀ v w', Sat W w' (sep (Post v) A) → K (a.put o.dst v) w') : Go.wpOp P ops Q i K a w := by
  unfold Go.wpOp
  simp only [ho, h.1, if_true]
  refine .inl ?_
  unfold Oper.wp
  rcases h.2 w A hw with ⟨v, w', h1, h2⟩ | ⟨f, args, w1, h1, h2⟩
  · rw [h1]; exact hK v w' h2
  · rw [h1]
    refine Calls.mono h2 ?_
    rintro e w' ⟨v, rfl, h3⟩
    exact hK v w' h3
def dstOf (ops : Array Oper) (i : Nat) : Option Tmp := (ops[i]?).bind (·.dst)
def puts (ops : Array Oper) (l : List (Nat × Value)) (a : Act) : Act := l.foldl (fun a x => a.put (dstOf ops x.1) x.2) a
theorem puts_append (l m : List (Nat × Value)) (a : Act) : puts ops (l ++ m) a = puts ops m (puts ops l a) := by simp [puts]
def apartB (ops : Array Oper) (i j : Nat) : Bool := match ops[i]?, ops[j]? with | some o, some u => o.apart ops u | _, _ => false
theorem apartB_dst {i j : Nat} (h : apartB ops i j = true) : (∀ d, dstOf ops i = some d → dstOf ops j ≠ some d) ∧ (∀ d, dstOf ops j = some d → dstOf ops i ≠ some d) := by
  unfold apartB at h
  unfold dstOf
  cases hi : ops[i]? with
  | none => rw [hi] at h; cases h
  | some o =>
    cases hj : ops[j]? with
    | none => rw [hi, hj] at h; cases h
    | some u =>
      rw [hi, hj] at h
      obtain ⟨h1, h2, h3⟩ := Oper.apart_spec h
      exact ⟨fun d hd => h2 d hd, fun d hd he => h2 d he hd⟩
theorem puts_swap {i : Nat} (v : Value) : ∀ (l : List (Nat × Value)), (∀ x ∈ l, apartB ops i x.1 = true) → ∀ a : Act, puts ops l (a.put (dstOf ops i) v) = (puts ops l a).put (dstOf ops i) v
  | [], _, _ => rfl
  | x :: l, h, a => by
    show puts ops l ((a.put (dstOf ops i) v).put (dstOf ops x.1) x.2) = (puts ops l (a.put (dstOf ops x.1) x.2)).put (dstOf ops i) v
    rw [Act.put_comm a v x.2 (apartB_dst (h x (by simp))).1, puts_swap v l (fun y hy => h y (by simp [hy]))]
theorem puts_swaps (l : List (Nat × Value)) : ∀ (m : List (Nat × Value)), (∀ x ∈ m, ∀ y ∈ l, apartB ops x.1 y.1 = true) → ∀ a : Act, puts ops l (puts ops m a) = puts ops m (puts ops l a)
  | [], _, _ => rfl
  | x :: m, h, a => by
    show puts ops l (puts ops m (a.put (dstOf ops x.1) x.2)) = puts ops m ((puts ops l a).put (dstOf ops x.1) x.2)
    rw [puts_swaps l m (fun y hy => h y (by simp [hy])), puts_swap x.2 l (h x (by simp))]
theorem DoesS.puts {o : Oper} {i : Nat} {Pre : Assn} {Post : Value → Assn} (ho : ops[i]? = some o) (hs : ∀ cs b, o.op ≠ .select cs b) : ∀ (l : List (Nat × Value)), (∀ x ∈ l, apartB ops x.1 i = true ∨ apartB ops i x.1 = true) → ∀ {a : Act}, DoesS P ops W o a Pre Post → DoesS P ops W o (puts ops l a) Pre Post
  | [], _, _, h => h
  | x :: l, hl, a, h => by
    refine DoesS.puts ho hs l (fun y hy => hl y (by simp [hy])) (h.put hs ?_ x.2)
    intro t ht
    unfold dstOf at ht
    cases hx : ops[x.1]? with
    | none => rw [hx] at ht; cases ht
    | some u =>
      rw [hx] at ht
      rcases hl x (by simp) with h1 | h1
      · unfold apartB at h1
        rw [hx, ho] at h1
        exact (Oper.apart_spec h1).1 t ht
      · unfold apartB at h1
        rw [hx, ho] at h1
        exact (Oper.apart_spec h1).2.2 t ht
structure Thr where
  ids : List Nat
  A : List Value → Assn
structure St where
  dn : List (Nat × Value)
  td : List Nat
  A : List Value → Assn
def St.now (s : St) : Assn := s.A (s.dn.map (·.2))
def stB (sts : List St) (B : Assn) : Assn := sts.foldl (fun B s => sep s.now B) B
theorem stB_cons (s : St) (sts : List St) (B : Assn) : stB (s :: sts) B = stB sts (sep s.now B) := rfl
theorem stB_append (s t : List St) (B : Assn) : stB (s ++ t) B = stB t (stB s B) := by simp [stB]
theorem stB_out (X : Assn) : ∀ (sts : List St) (B : Assn), stB sts (sep X B) = sep X (stB sts B)
  | [], _ => rfl
  | s :: sts, B => by rw [stB_cons, stB_cons, sep_lcomm, stB_out X sts]
/-- The steps of a thread, one behind the other. -/
def goodT (P : Program) (ops : Array Oper) (W : World) (a0 : Act) (A : List Value → Assn) : List (Nat × Value) → List Nat → Prop
  | _, [] => True
  | dn, i :: td => (∃ o, ops[i]? = some o ∧ (∀ cs b, o.op ≠ .select cs b) ∧ DoesS P ops W o (puts ops dn a0) (A (dn.map (·.2))) (fun v => A (dn.map (·.2) ++ [v]))) ∧ (∀ k ∈ td, ((Region.before ops).getD k 0).testBit i = true) ∧
      ∀ v, goodT P ops W a0 A (dn ++ [(i, v)]) td
/-- What is to be shown behind all threads. -/
def finT (ops : Array Oper) (W : World) (a0 : Act) (K : Act → World → Prop) : List Thr → List (Nat × Value) → Assn → Prop
  | [], D, B => ∀ w, Sat W w B → K (puts ops D a0) w
  | t :: ts, D, B => ∀ dn : List (Nat × Value), dn.map (·.1) = t.ids → finT ops W a0 K ts (D ++ dn) (sep (t.A (dn.map (·.2))) B)
def Like (ts : List Thr) (sts : List St) : Prop := sts.map (fun s => (s.dn.map (·.1) ++ s.td, s.A)) = ts.map fun t => (t.ids, t.A)
theorem finT_end {a0 : Act} {K : Act → World → Prop} : ∀ (sts : List St) (ts : List Thr) (D : List (Nat × Value)) (B : Assn), Like ts sts → sts.flatMap (·.td) = [] → finT ops W a0 K ts D B → ∀ w, Sat W w (stB sts B) → K (puts ops (D ++ sts.flatMap (·.dn)) a0) w
  | [], ts, D, B, hL, _, hf, w, hS => by
    have : ts = [] := by unfold Like at hL; simp at hL; exact hL
    subst this
    simpa using hf w hS
  | s :: sts, ts, D, B, hL, ht, hf, w, hS => by
    cases ts with
    | nil => unfold Like at hL; simp at hL
    | cons t ts =>
      unfold Like at hL
      simp only [List.map_cons, List.cons.injEq, Prod.mk.injEq] at hL
      obtain ⟨⟨h1, h2⟩, h3⟩ := hL
      simp only [List.flatMap_cons, List.append_eq_nil_iff] at ht
      rw [ht.1, List.append_nil] at h1
      have := hf s.dn h1
      rw [← h2] at this
      have h4 := finT_end sts ts (D ++ s.dn) _ h3 ht.2 this w (by rw [stB_cons] at hS; exact hS)
      rw [List.flatMap_cons, ← List.append_assoc]
      exact h4
def apartT (ops : Array Oper) (l m : List Nat) : Prop := ∀ i ∈ l, ∀ j ∈ m, apartB ops i j = true
def St.all (s : St) : List Nat := s.dn.map (·.1) ++ s.td
theorem wpGrp_go {a0 : Act} {A : Assn} {b : Bool} {K : Act → World → Prop} (ts : List Thr) (hS : b = true → ∀ w X, Sat W w (sep X A) → S w) (hfin : finT ops W a0 K ts [] A) :
    ∀ (n : Nat) (sts : List St) (E : List Nat) (w : World), E.length = n → E.Perm (sts.flatMap (·.td)) → Like ts sts → (∀ s ∈ sts, goodT P ops W a0 s.A s.dn s.td) → (sts.Pairwise fun s t => apartT ops s.all t.all) → Sat W w (stB sts A) →
      wpGrp P ops Q S b n E K (puts ops (sts.flatMap (·.dn)) a0) w := by
  intro n
  induction n with
  | zero =>
    intro sts E w hn hp hL _ _ hw
    have hE := List.eq_nil_of_length_eq_zero hn
    subst hE
    have := finT_end sts ts [] A hL (List.nil_perm.1 hp) hfin w hw
    rw [List.nil_append] at this
    exact this
  | succ n ih =>
    intro sts E w hn hp hL hg hap hw i hi hr
    obtain ⟨s, hs, his⟩ := List.mem_flatMap.1 (hp.mem_iff.1 hi)
    obtain ⟨S1, S2, rfl⟩ := List.append_of_mem hs
    obtain ⟨dn, td, AT⟩ := s
    cases td with
    | nil => simp at his
    | cons k td =>
      have hgs := hg _ hs
      obtain ⟨⟨o, ho, hsel, hd⟩, hch, hnext⟩ := hgs
      have hik : i = k := by
        rcases List.mem_cons.1 his with e | hm
        · exact e
        · exfalso
          have h1 := hch i hm
          have h2 : k ∈ E := hp.mem_iff.2 (List.mem_flatMap.2 ⟨_, hs, by simp⟩)
          have h3 := List.all_eq_true.1 hr k h2
          rw [h1] at h3
          cases h3
      subst hik
      have hpw := List.pairwise_append.1 hap
      have hpc := List.pairwise_cons.1 hpw.2.1
      have hl1 : ∀ x ∈ S1.flatMap (·.dn), ∀ j ∈ dn.map (·.1) ++ i :: td, apartB ops x.1 j = true := fun x hx j hj => by
        obtain ⟨s1, hs1, hx1⟩ := List.mem_flatMap.1 hx
        exact hpw.2.2 s1 hs1 ⟨dn, i :: td, AT⟩ (by simp) x.1 (List.mem_append_left _ (List.mem_map.2 ⟨x, hx1, rfl⟩)) j hj
      have hl2 : ∀ x ∈ S2.flatMap (·.dn), ∀ j ∈ dn.map (·.1) ++ i :: td, apartB ops j x.1 = true := fun x hx j hj => by
        obtain ⟨s1, hs1, hx1⟩ := List.mem_flatMap.1 hx
        exact hpc.1 s1 hs1 j hj x.1 (List.mem_append_left _ (List.mem_map.2 ⟨x, hx1, rfl⟩))
      have hacts : puts ops ((S1 ++ ⟨dn, i :: td, AT⟩ :: S2).flatMap (·.dn)) a0 = puts ops (S2.flatMap (·.dn)) (puts ops (S1.flatMap (·.dn)) (puts ops dn a0)) := by
        rw [List.flatMap_append, List.flatMap_cons, puts_append, puts_append]
        congr 1
        exact puts_swaps dn _ (fun x hx y hy => hl1 x hx y.1 (List.mem_append_left _ (List.mem_map.2 ⟨y, hy, rfl⟩))) a0
      have hd' : DoesS P ops W o (puts ops ((S1 ++ ⟨dn, i :: td, AT⟩ :: S2).flatMap (·.dn)) a0) (AT (dn.map (·.2))) (fun v => AT (dn.map (·.2) ++ [v])) := by
        rw [hacts, ← puts_append]
        refine DoesS.puts ho hsel _ (fun x hx => ?_) hd
        rcases List.mem_append.1 hx with hx | hx
        · exact .inl (hl1 x hx i (by simp))
        · exact .inr (hl2 x hx i (by simp))
      have hw2 : Sat W w (sep (AT (dn.map (·.2))) (stB S2 (stB S1 A))) := by
        rw [stB_append, stB_cons, stB_out] at hw
        exact hw
      refine hd'.wpOp ho hw2 (fun v w' hv => ?_)
      have hst : Sat W w' (stB (S1 ++ ⟨dn ++ [(i, v)], td, AT⟩ :: S2) A) := by
        rw [stB_append, stB_cons, stB_out]
        show Sat W w' (sep (AT ((dn ++ [(i, v)]).map (·.2))) (stB S2 (stB S1 A)))
        rw [List.map_append]
        exact hv
      refine ⟨fun hb => ?_, ?_⟩
      · have : ∃ X, stB (S1 ++ ⟨dn ++ [(i, v)], td, AT⟩ :: S2) A = sep X A := by
          have g : ∀ (l : List St), ∃ X, stB l A = sep X A := by
            intro l
            have : ∀ (l : List St) (B : Assn), ∃ X, stB l B = sep X B := by
              intro l
              induction l with
              | nil => intro B; exact ⟨emp, (emp_sep B).symm⟩
              | cons s l ih2 =>
                intro B
                obtain ⟨X, hX⟩ := ih2 B
                exact ⟨sep s.now X, by rw [stB_cons, stB_out, hX, sep_assoc]⟩
            exact this l A
          exact g _
        obtain ⟨X, hX⟩ := this
        rw [hX] at hst
        exact hS hb w' X hst
      · have e2 : (puts ops ((S1 ++ ⟨dn, i :: td, AT⟩ :: S2).flatMap (·.dn)) a0).put o.dst v = puts ops ((S1 ++ ⟨dn ++ [(i, v)], td, AT⟩ :: S2).flatMap (·.dn)) a0 := by
          have hdo : dstOf ops i = o.dst := by unfold dstOf; rw [ho]; rfl
          rw [← hdo]
          simp only [List.flatMap_append, List.flatMap_cons, List.append_assoc]
          rw [← List.append_assoc, puts_append, ← List.append_assoc, puts_append (S1.flatMap (·.dn) ++ dn)]
          show _ = puts ops (S2.flatMap (·.dn)) ((puts ops (S1.flatMap (·.dn) ++ dn) a0).put (dstOf ops i) v)
          rw [puts_swap v _ (fun x hx => hl2 x hx i (by simp))]
        rw [e2]
        refine ih _ (E.erase i) w' ?_ ?_ ?_ ?_ ?_ hst
        · rw [List.length_erase_of_mem hi, hn]; rfl
        · have h1 : ((S1 ++ ⟨dn, i :: td, AT⟩ :: S2).flatMap (·.td)).Perm (i :: (S1 ++ ⟨dn ++ [(i, v)], td, AT⟩ :: S2).flatMap (·.td)) := by
            simp only [List.flatMap_append, List.flatMap_cons]
            exact List.perm_middle
          have h2 := (hp.trans h1).erase i
          rw [List.erase_cons_head] at h2
          exact h2
        · unfold Like at *
          rw [← hL]
          simp
        · intro s hs'
          rcases List.mem_append.1 hs' with h | h
          · exact hg s (List.mem_append_left _ h)
          · rcases List.mem_cons.1 h with rfl | h
            · exact hnext v
            · exact hg s (by simp [h])
        · refine List.pairwise_append.2 ⟨hpw.1, List.pairwise_cons.2 ⟨fun y hy => ?_, hpc.2⟩, fun x hx y hy => ?_⟩
          · have := hpc.1 y hy
            simpa [St.all] using this
          · rcases List.mem_cons.1 hy with rfl | hy
            · have := hpw.2.2 x hx _ (List.mem_cons_self)
              simpa [St.all] using this
            · exact hpw.2.2 x hx y (by simp [hy])
def apartTB (ops : Array Oper) (l m : List Nat) : Bool := l.all fun i => m.all fun j => apartB ops i j
def pairsTB (ops : Array Oper) : List (List Nat) → Bool
  | [] => true
  | l :: ls => ls.all (apartTB ops l) && pairsTB ops ls
theorem pairsTB_ok : ∀ (ts : List Thr), pairsTB ops (ts.map (·.ids)) = true → (ts.map fun t => (⟨[], t.ids, t.A⟩ : St)).Pairwise fun s t => apartT ops s.all t.all
  | [], _ => .nil
  | t :: ts, h => by
    simp only [List.map_cons, pairsTB, Bool.and_eq_true, List.all_eq_true] at h
    refine List.pairwise_cons.2 ⟨fun s hs => ?_, pairsTB_ok ts h.2⟩
    obtain ⟨u, hu, rfl⟩ := List.mem_map.1 hs
    have := h.1 u.ids (List.mem_map.2 ⟨u, hu, rfl⟩)
    simp only [apartTB, List.all_eq_true] at this
    intro i hi j hj
    exact this i (by simpa [St.all] using hi) j (by simpa [St.all] using hj)
/-- A group of effects, as threads beside each other. -/
theorem wpI_threads {a : Act} {w : World} {A : Assn} {b : Bool} {l : List It} {K : Act → World → Prop} (ts : List Thr) (hS : b = true → ∀ w X, Sat W w (sep X A) → S w)
    (hap : pairsTB ops (ts.map (·.ids)) = true) (hg : ∀ t ∈ ts, goodT P ops W a t.A [] t.ids) (hw : Sat W w (ts.foldl (fun B t => sep (t.A []) B) A)) (hfin : finT ops W a (wpI P ops Q S l K) ts [] A) :
    wpI P ops Q S (.grp b (ts.flatMap (·.ids)) :: l) K a w := by
  have hsts : stB (ts.map fun t => (⟨[], t.ids, t.A⟩ : St)) A = ts.foldl (fun B t => sep (t.A []) B) A := by
    rw [stB, List.foldl_map]; rfl
  have h := wpGrp_go (P := P) (Q := Q) (S := S) (b := b) ts hS hfin _ (ts.map fun t => (⟨[], t.ids, t.A⟩ : St)) (ts.flatMap (·.ids)) w rfl ?_ ?_ ?_ (pairsTB_ok ts hap) (by rw [hsts]; exact hw)
  · have e : (ts.map fun t => (⟨[], t.ids, t.A⟩ : St)).flatMap (·.dn) = [] := by
      induction ts with
      | nil => rfl
      | cons t ts ih => simp
    rw [e] at h
    exact h
  · rw [List.flatMap_map]
  · unfold Like; simp
  · intro s hs
    obtain ⟨t, ht, rfl⟩ := List.mem_map.1 hs
    exact hg t ht
end
end PA
