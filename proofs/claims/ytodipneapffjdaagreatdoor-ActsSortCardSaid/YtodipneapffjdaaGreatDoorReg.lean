/- A region that leaves its order open: one walk in one order serves every order. Plain Lean, no program in sight. -/
import Derived.Test.YtodipneapffjdaaGreatDoorSl
import Derived.Deep.RegionHeld3
namespace PA
open Go Go.RowKit

/-- How an operation is carried out: e b: it may change the world (b: S must hold behind it); p: it yields its value in every world; s: in every world that meets S; t: in the world at hand. -/
abbrev Kd := Sum Bool (Option Bool)
abbrev Kd.e (b : Bool) : Kd := Sum.inl b
abbrev Kd.p : Kd := Sum.inr none
abbrev Kd.s : Kd := Sum.inr (some true)
abbrev Kd.t : Kd := Sum.inr (some false)
def Kd.eff : Kd → Bool | .inl _ => true | .inr _ => false

def YAt (P : Program) (ops : Array Oper) (o : Oper) (v : Value) (a : Act) (w : World) : Prop :=
  (Region.wanted o (yielded ops a.tmps) = true ∧ (execOp a.eval o).run P w = .ok (.value v) w) ∨
  (Region.wanted o (yielded ops a.tmps) = false ∧ v = undef)
def Alk (ops : Array Oper) (o : Oper) (a b : Act) : Prop := execOp b.eval o = execOp a.eval o ∧ Region.wanted o (yielded ops b.tmps) = Region.wanted o (yielded ops a.tmps)
section
variable {P : Program} {ops : Array Oper} {Q : Exit → Act → World → Prop} {S : World → Prop}
theorem YAt.alk {o : Oper} {v : Value} {a b : Act} {w : World} (h : YAt P ops o v a w) (hk : Alk ops o a b) : YAt P ops o v b w := by
  unfold YAt at *; rw [hk.1, hk.2]; exact h
theorem YAt.wpOp {i : Nat} {o : Oper} {v : Value} {a : Act} {w : World} (hi : ops[i]? = some o) (hy : YAt P ops o v a w) {K : Act → World → Prop} (h : K (a.put o.dst v) w) : wpOp P ops Q i K a w := by
  unfold Go.wpOp
  simp only [hi]
  rcases hy with ⟨hw, hv⟩ | ⟨hw, rfl⟩
  · simp only [hw, if_true, Oper.wp, hv, Oper.upon]; exact .inl h
  · simp only [hw, Bool.false_eq_true, if_false]; exact h
theorem wpOp_swap {j : Nat} {oi oj : Oper} {v : Value} (hj : ops[j]? = some oj) (hap : oi.apart ops oj = true)
    (hsi : ∀ cs b, oi.op ≠ .select cs b) (hsj : ∀ cs b, oj.op ≠ .select cs b)
    (hQ : ∀ c a d v w, Q (.panic c) (a.put d v) w → Q (.panic c) a w) {K : Act → World → Prop} {a : Act} {w : World}
    (h : wpOp P ops Q j K (a.put oi.dst v) w) :
    wpOp P ops Q j (fun a' w' => Alk ops oi a a' ∧ K (a'.put oi.dst v) w') a w := by
  obtain ⟨h1, h2, h3⟩ := Oper.apart_spec hap
  have keep : ∀ u, Alk ops oi a (a.put oj.dst u) := fun u => ⟨execOp_put oi hsi a oj.dst u h3, wanted_put oi a oj.dst u h3⟩
  unfold wpOp at *
  simp only [hj] at *
  rw [wanted_put oj a oi.dst v h1] at h
  split
  · rename_i hw
    simp only [hw, if_true] at h
    rcases h with h | ⟨hasks, hlets⟩
    case inr => exact .inr ⟨by unfold Oper.asks at *; rw [execOp_put oj hsj a oi.dst v h1] at hasks; exact hasks, hlets⟩
    refine .inl ?_
    unfold Oper.wp at *
    rw [execOp_put oj hsj a oi.dst v h1] at h
    generalize (execOp a.eval oj).run P w = r at *
    cases r with
    | ok n w' =>
      cases n <;> simp only [Oper.upon] at h ⊢
      case value u => exact ⟨keep u, by rw [← Act.put_comm a v u h2]; exact h⟩
      case skip => exact ⟨keep _, by rw [← Act.put_comm a v undef h2]; exact h⟩
      case defer d =>
        refine ⟨⟨execOp_put oi hsi { a with defers := d :: a.defers } oj.dst undef h3, wanted_put oi { a with defers := d :: a.defers } oj.dst undef h3⟩, ?_⟩
        rw [← Act.put_comm _ v undef h2, ← Act.put_defers]
        exact h
      case enter f args =>
        refine Calls.mono h fun e w'' he => ?_
        cases e with
        | returned u => exact ⟨keep u, by rw [← Act.put_comm a v u h2]; exact he⟩
        | panicked c => exact hQ _ _ _ _ _ he
        | outgrown => exact he
      case row row args => exact Rows.mono h fun u w'' he => ⟨keep u, by rw [← Act.put_comm a v u h2]; exact he⟩
    | halt x w' =>
      cases x <;> simp only [Oper.upon] at h ⊢
      case panic u => exact hQ _ _ _ _ _ h
  · rename_i hw
    simp only [hw] at h
    exact ⟨keep _, by rw [← Act.put_comm a v undef h2]; exact h⟩

/-- The walk in the one order. -/
def wpC (P : Program) (ops : Array Oper) (Q : Exit → Act → World → Prop) (S : World → Prop) : List (Nat × Kd) → Act → World → Prop
  | [], a, w => Q .normal a w
  | (i, k) :: l, a, w => ∃ o, ops[i]? = some o ∧ match k with
    | .inr none => ∃ v, (∀ w', YAt P ops o v a w') ∧ wpC P ops Q S l (a.put o.dst v) w
    | .inr (some true) => S w ∧ ∃ v, (∀ w', S w' → YAt P ops o v a w') ∧ wpC P ops Q S l (a.put o.dst v) w
    | .inr (some false) => ∃ v, YAt P ops o v a w ∧ wpC P ops Q S l (a.put o.dst v) w
    | .inl b => wpOp P ops Q i (fun a' w' => (b = true → S w') ∧ wpC P ops Q S l a' w') a w

def dirB (ops : Array Oper) (j r : Nat) : Bool := match ops[j]? with | some o => o.after.any fun e => Region.binds .any e && e.on == r | none => false
/-- What of x ahead of y is asked. -/
def okPair (ops : Array Oper) (bf : Array Nat) (x y : Nat × Kd) : Bool :=
  !dirB ops x.1 y.1 && ((bf.getD y.1 0).testBit x.1 ||
    (!x.2.eff && (match ops[x.1]?, ops[y.1]? with | some o, some u => o.apart ops u | _, _ => false) &&
      (match x.2, y.2 with | .inr (some false), .inl _ => false | .inr (some true), .inl b => b | _, _ => true)))
def okAll (ops : Array Oper) (bf : Array Nat) : List (Nat × Kd) → Bool
  | [] => true
  | x :: l => l.all (okPair ops bf x) && !dirB ops x.1 x.1 && okAll ops bf l
def noSel (ops : Array Oper) : Bool := ops.all fun o => match o.op with | .select .. => false | _ => true
def okBefore (ops : Array Oper) (bf : Array Nat) : Bool :=
  (List.range ops.size).all fun j => (List.range ops.size).all fun r => !(bf.getD j 0).testBit r || dirB ops j r || (List.range ops.size).any fun d => dirB ops j d && (bf.getD d 0).testBit r
def nodupB : List Nat → Bool
  | [] => true
  | x :: l => !l.contains x && nodupB l
theorem nodup_of_B : ∀ (l : List Nat), nodupB l = true → l.Nodup
  | [], _ => List.nodup_nil
  | x :: l, h => by
    simp only [nodupB, Bool.and_eq_true, Bool.not_eq_true'] at h
    exact List.nodup_cons.2 ⟨by simpa using h.1, nodup_of_B l h.2⟩
def canonOK (ops : Array Oper) (bf : Array Nat) (l : List (Nat × Kd)) : Bool :=
  okAll ops bf l && noSel ops && okBefore ops bf && (l.map (·.1)).length == ops.size && nodupB (l.map (·.1)) && (l.map (·.1)).all (fun i => decide (i < ops.size)) && (List.range ops.size).all (fun i => (l.map (·.1)).contains i) &&
  ops.all (fun o => o.after.all fun e => !Region.binds .any e || decide (e.on < ops.size))

theorem pull {j : Nat} {kj : Kd} {bf : Array Nat} (hsel : ∀ (j : Nat) (o : Oper) cs b, ops[j]? = some o → o.op ≠ .select cs b) (hQ : ∀ c a d v w, Q (.panic c) (a.put d v) w → Q (.panic c) a w) (l2 : List (Nat × Kd)) :
    ∀ (l1 : List (Nat × Kd)), (∀ x ∈ l1, okPair ops bf x (j, kj) = true ∧ (bf.getD j 0).testBit x.1 = false) → ∀ (a : Act) (w : World), wpC P ops Q S (l1 ++ (j, kj) :: l2) a w →
      wpOp P ops Q j (fun a' w' => wpC P ops Q S (l1 ++ l2) a' w' ∧ (kj = .e true → S w') ∧ (kj.eff = false → w' = w)) a w
  | [], _, a, w, h => by
    obtain ⟨o, ho, h⟩ := h
    rcases kj with b | _ | _ | _
    case inr.none => obtain ⟨v, hy, h⟩ := h; exact (hy w).wpOp ho ⟨h, fun h => (by cases h), fun _ => rfl⟩
    case inr.some.true => obtain ⟨hS, v, hy, h⟩ := h; exact (hy w hS).wpOp ho ⟨h, fun h => (by cases h), fun _ => rfl⟩
    case inr.some.false => obtain ⟨v, hy, h⟩ := h; exact hy.wpOp ho ⟨h, fun h => (by cases h), fun _ => rfl⟩
    case inl => exact wpOp_mono (fun a' w' ⟨h1, h2⟩ => ⟨h2, fun hb => h1 (by cases hb; rfl), fun hb => (by simp [Kd.eff] at hb)⟩) h
  | (r, kr) :: l1, hl, a, w, h => by
    obtain ⟨o, ho, h⟩ := h
    obtain ⟨hp, hnd⟩ := hl (r, kr) (by simp)
    simp only [okPair, hnd, Bool.false_or, Bool.and_eq_true, ho] at hp
    obtain ⟨_, ⟨hne, hap⟩, hk⟩ := hp
    cases hj : ops[j]? with
    | none => simp [hj] at hap
    | some oj =>
      simp only [hj] at hap
      have ih := pull hsel hQ l2 l1 (fun x hx => hl x (by simp [hx]))
      have go : ∀ (v : Value), wpC P ops Q S (l1 ++ (j, kj) :: l2) (a.put o.dst v) w →
          wpOp P ops Q j (fun a' w' => Alk ops o a a' ∧ wpC P ops Q S (l1 ++ l2) (a'.put o.dst v) w' ∧ (kj = .e true → S w') ∧ (kj.eff = false → w' = w)) a w := fun v hv =>
        wpOp_swap hj hap (fun cs b => hsel r o cs b ho) (fun cs b => hsel j oj cs b hj) hQ (ih _ _ hv)
      rcases kr with b | _ | _ | _
      case inr.none =>
        obtain ⟨v, hy, h⟩ := h
        exact wpOp_mono (fun a' w' ⟨h1, h2, h3, h4⟩ => ⟨⟨o, ho, v, fun w' => (hy w').alk h1, h2⟩, h3, h4⟩) (go v h)
      case inr.some.true =>
        obtain ⟨hS, v, hy, h⟩ := h
        refine wpOp_mono (fun a' w' ⟨h1, h2, h3, h4⟩ => ⟨⟨o, ho, ?_, v, fun w' hw' => (hy w' hw').alk h1, h2⟩, h3, h4⟩) (go v h)
        rcases kj with b | _
        · exact h3 (by simp at hk; rw [hk])
        · rw [h4 rfl]; exact hS
      case inr.some.false =>
        obtain ⟨v, hy, h⟩ := h
        refine wpOp_mono (fun a' w' ⟨h1, h2, h3, h4⟩ => ⟨⟨o, ho, v, ?_, h2⟩, h3, h4⟩) (go v h)
        rcases kj with b | _
        · simp at hk
        · rw [h4 rfl]; exact hy.alk h1
      case inl => simp [Kd.eff] at hne

theorem getD_set_ne (l : Array Bool) (i j : Nat) (x y : Bool) (h : i ≠ j) : (l.setIfInBounds j x).getD i y = l.getD i y := by
  rw [Array.getD_eq_getD_getElem?, Array.getD_eq_getD_getElem?, Array.getElem?_setIfInBounds_ne (Ne.symm h)]
structure InvC (ops : Array Oper) (bf : Array Nat) (listed : Array Bool) (l : List (Nat × Kd)) : Prop where
  size : listed.size = ops.size
  mem : ∀ i, i ∈ l.map (·.1) ↔ i < ops.size ∧ listed.getD i true = false
  nodup : (l.map (·.1)).Nodup
  pair : l.Pairwise fun x y => okPair ops bf x y = true
  self : ∀ x ∈ l, dirB ops x.1 x.1 = false
  closed : ∀ d r, r < ops.size → listed.getD d false = true → (bf.getD d 0).testBit r = true → listed.getD r false = true

theorem any_of_C {bf : Array Nat} (hsel : ∀ (j : Nat) (o : Oper) cs b, ops[j]? = some o → o.op ≠ .select cs b) (hQ : ∀ c a d v w, Q (.panic c) (a.put d v) w → Q (.panic c) a w)
    (hbf : okBefore ops bf = true) (hon : ∀ (j : Nat) (o : Oper), ops[j]? = some o → ∀ e ∈ o.after, Region.binds .any e = true → e.on < ops.size) :
    ∀ (n : Nat) (l : List (Nat × Kd)) (listed : Array Bool), l.length = n → InvC ops bf listed l → ∀ (a : Act) (w : World), wpC P ops Q S l a w → wpAny P .any ops Q n listed a w := by
  have getT : ∀ (listed : Array Bool) (i : Nat), listed.size = ops.size → i < ops.size → (listed.getD i false = true ↔ ¬ listed.getD i true = false) := fun listed i hs hi => by
    simp [Array.getD, hs, hi]
  have nil : ∀ (listed : Array Bool), InvC ops bf listed [] → Region.ready .any ops listed = [] := fun listed hI => by
    simp only [Region.ready, List.filter_eq_nil_iff, List.mem_range]
    intro i hi
    have h' : ¬ listed.getD i true = false := fun hh => by have := (hI.mem i).2 ⟨hi, hh⟩; simp at this
    have h'' : listed.getD i true = true := by simpa using h'
    simp [h'']
  intro n
  induction n with
  | zero =>
    intro l listed hn hI a w h
    obtain rfl := List.eq_nil_of_length_eq_zero hn
    exact ⟨nil _ hI, h⟩
  | succ n ih =>
    intro l listed hn hI a w h
    refine ⟨fun hr => ?_, fun j hj => ?_⟩
    · match l, hn with
      | x :: l, _ =>
        exfalso
        have hx := (hI.mem x.1).1 (by simp)
        obtain ⟨o, ho, _⟩ := h
        have hmem : x.1 ∈ Region.ready .any ops listed := by
          simp only [Region.ready, List.mem_filter, List.mem_range]
          refine ⟨hx.1, ?_⟩
          have : listed.getD x.1 true = false := hx.2
          simp only [this, Bool.not_false, Bool.true_and, ho, Option.map_some, Option.getD_some]
          rw [Array.all_eq_true]
          intro k hk
          have hmem := Array.getElem_mem hk
          by_cases hb : Region.binds .any o.after[k] = true
          · have hlt := hon x.1 o ho _ hmem hb
            have hdir : dirB ops x.1 o.after[k].on = true := by
              simp only [dirB, ho, Array.any_eq_true]
              exact ⟨k, hk, by simp [hb]⟩
            have hnot : o.after[k].on ∉ (x :: l).map (·.1) := by
              intro hm
              simp only [List.map_cons, List.mem_cons, List.mem_map] at hm
              rcases hm with hm | ⟨y, hy, hm⟩
              · have := hI.self x (by simp)
                rw [← hm] at this
                rw [← hm] at hdir
                rw [hdir] at this; cases this
              · have := (List.pairwise_cons.1 hI.pair).1 y hy
                simp only [okPair, Bool.and_eq_true, Bool.not_eq_true', hm, hdir] at this
                exact absurd this.1 (by simp)
            have h2 : ¬ listed.getD o.after[k].on true = false := fun e => hnot ((hI.mem _).2 ⟨hlt, e⟩)
            have := (getT listed _ hI.size hlt).2 h2
            simp [this]
          · simp [hb]
        rw [hr] at hmem; cases hmem
    · simp only [Region.ready, List.mem_filter, List.mem_range, Bool.and_eq_true, Bool.not_eq_true'] at hj
      obtain ⟨hjs, hjl, hja⟩ := hj
      have hjm := (hI.mem j).2 ⟨hjs, hjl⟩
      obtain ⟨y, hy, rfl⟩ := List.mem_map.1 hjm
      obtain ⟨l1, l2, rfl⟩ := List.append_of_mem hy
      obtain ⟨j, kj⟩ := y
      cases hoj : ops[j]? with
      | none => simp [hoj] at hja
      | some oj =>
        simp only [hoj, Option.map_some, Option.getD_some] at hja
        have hdirl : ∀ d, dirB ops j d = true → listed.getD d false = true := fun d hd => by
          simp only [dirB, hoj, Array.any_eq_true] at hd
          obtain ⟨k, hk, hd⟩ := hd
          simp only [Bool.and_eq_true, beq_iff_eq] at hd
          rw [Array.all_eq_true] at hja
          have := hja k hk
          rw [hd.1] at this
          simpa [hd.2] using this
        have hbl : ∀ r, r < ops.size → (bf.getD j 0).testBit r = true → listed.getD r false = true := fun r hr hb => by
          simp only [okBefore, List.all_eq_true, List.mem_range] at hbf
          have := hbf j hjs r hr
          simp only [hb, Bool.not_true, Bool.false_or, Bool.or_eq_true, List.any_eq_true, List.mem_range, Bool.and_eq_true] at this
          rcases this with h | ⟨d, _, h1, h2⟩
          · exact hdirl r h
          · exact hI.closed d r hr (hdirl d h1) h2
        have hnotin : ∀ x ∈ l1, (bf.getD j 0).testBit x.1 = false := fun x hx => by
          have hxm := (hI.mem x.1).1 (by simp; exact .inl ⟨x.2, hx⟩)
          cases hb : (bf.getD j 0).testBit x.1 with
          | false => rfl
          | true => exact absurd hxm.2 ((getT listed x.1 hI.size hxm.1).1 (hbl x.1 hxm.1 hb))
        have hpw := List.pairwise_append.1 hI.pair
        refine wpOp_mono (fun a' w' ⟨h1, _, _⟩ => ih (l1 ++ l2) (listed.setIfInBounds j true) ?_ ?_ a' w' h1) (pull hsel hQ l2 l1 (fun x hx => ⟨hpw.2.2 x hx (j, kj) (by simp), hnotin x hx⟩) a w h)
        · simp at hn ⊢; omega
        · have hnd := hI.nodup
          simp only [List.map_append, List.map_cons, List.nodup_append, List.nodup_cons, List.mem_cons] at hnd
          refine ⟨by simp [hI.size], fun i => ?_, ?_, ?_, fun x hx => hI.self x (by simp at hx ⊢; rcases hx with h | h <;> simp [h]), ?_⟩
          · have := hI.mem i
            simp only [List.map_append, List.map_cons, List.mem_append, List.mem_cons] at this ⊢
            by_cases e : i = j
            · subst e
              constructor
              · rintro (hi | hi)
                · exact absurd rfl (hnd.2.2 i hi i (.inl rfl))
                · exact absurd hi hnd.2.1.1
              · rintro ⟨h1, h2⟩
                simp [Array.getD, hI.size, h1] at h2
            · have hg : (listed.setIfInBounds j true).getD i true = listed.getD i true := getD_set_ne _ _ _ _ _ e
              rw [hg, ← this]
              simp [e]
          · simp only [List.map_append, List.nodup_append]
            exact ⟨hnd.1, hnd.2.1.2, fun x hx y hy => hnd.2.2 x hx y (.inr hy)⟩
          · refine List.pairwise_append.2 ⟨hpw.1, (List.pairwise_cons.1 hpw.2.1).2, fun x hx y hy => hpw.2.2 x hx y (by simp [hy])⟩
          · intro d r hr hd hb
            by_cases e : r = j
            · subst e; simp [Array.getD, hI.size, hr]
            · have hg : (listed.setIfInBounds j true).getD r false = listed.getD r false := getD_set_ne _ _ _ _ _ e
              rw [hg]
              by_cases e2 : d = j
              · subst e2; exact hbl r hr hb
              · have hg2 : (listed.setIfInBounds j true).getD d false = listed.getD d false := getD_set_ne _ _ _ _ _ e2
                rw [hg2] at hd
                exact hI.closed d r hr hd hb

theorem okAll_pair {bf : Array Nat} : ∀ (l : List (Nat × Kd)), okAll ops bf l = true → (l.Pairwise fun x y => okPair ops bf x y = true) ∧ ∀ x ∈ l, dirB ops x.1 x.1 = false
  | [], _ => ⟨.nil, fun _ h => (by cases h)⟩
  | x :: l, h => by
    simp only [okAll, Bool.and_eq_true, List.all_eq_true, Bool.not_eq_true'] at h
    have ih := okAll_pair l h.2
    refine ⟨List.pairwise_cons.2 ⟨h.1.1, ih.1⟩, fun y hy => ?_⟩
    rcases List.mem_cons.1 hy with rfl | hy
    · exact h.1.2
    · exact ih.2 y hy
/-- THE RULE: a region that leaves its order open, walked in the one order 'l'. -/
theorem wp_region_canon {id : Nat} {a : Act} {w : World} (hm : P.follows .mixedOrders = true) (S : World → Prop) (l : List (Nat × Kd)) (hok : canonOK ops (Region.before ops) l = true)
    (h : wpC P ops (NoPanic Q) S l a w.drew) : (Code.region id ops true).wp P Q a w := by
  simp only [canonOK, Bool.and_eq_true] at hok
  obtain ⟨⟨⟨⟨⟨⟨⟨h1, h2⟩, h3⟩, h4⟩, h7⟩, h8⟩, h5⟩, h6⟩ := hok
  have hlen : l.length = ops.size := by simpa using h4
  have hall : ∀ i, i < ops.size → i ∈ l.map (·.1) := fun i hi => by
    simp only [List.all_eq_true, List.mem_range] at h5
    simpa using h5 i hi
  have hback : ∀ i, i ∈ l.map (·.1) → i < ops.size := fun i hi => by
    rw [List.all_eq_true] at h8
    simpa using h8 i hi
  have hp := okAll_pair l h1
  refine wp_region_noPanic (wp_region_any hm ?_)
  refine any_of_C (bf := Region.before ops) (S := S) ?_ ?_ h3 ?_ ops.size l _ hlen ?_ a w.drew h
  · intro j o cs b ho hsel
    simp only [noSel, Array.all_eq_true] at h2
    obtain ⟨hj, rfl⟩ := Array.getElem?_eq_some_iff.1 ho
    have := h2 j hj
    rw [hsel] at this
    cases this
  · intro c a d v w hh; exact hh
  · intro j o ho e he hb
    obtain ⟨hj, rfl⟩ := Array.getElem?_eq_some_iff.1 ho
    rw [Array.all_eq_true] at h6
    have := h6 j hj
    rw [Array.all_eq_true] at this
    obtain ⟨k, hk, rfl⟩ := Array.mem_iff_getElem.1 he
    have := this k hk
    simpa [hb] using this
  · refine ⟨by simp, fun i => ⟨fun hi => ?_, fun hi => hall i hi.1⟩, nodup_of_B _ h7, hp.1, hp.2, fun d r _ hd => ?_⟩
    · have := hback i hi
      exact ⟨this, by simp [Array.getD, this]⟩
    · exfalso
      simp only [Array.getD, Array.size_replicate] at hd
      split at hd <;> simp at hd
end
end PA
namespace PA
open Go Go.RowKit
section
variable {P : Program} {ops : Array Oper} {Q : Exit → Act → World → Prop} {S : World → Prop} {i : Nat} {l : List (Nat × Kd)} {a : Act} {w : World} {o : Oper} {v : Value}
theorem C_p (ho : ops.toList[i]? = some o) (hg : Region.wanted o (yielded ops a.tmps) = true) (hv : ∀ w', (execOp a.eval o).run P w' = .ok (.value v) w') (h : wpC P ops Q S l (a.put o.dst v) w) : wpC P ops Q S ((i, .p) :: l) a w :=
  have ho' := (Array.getElem?_toList (xs := ops) (i := i)).symm.trans ho
  ⟨o, ho', v, fun w' => .inl ⟨hg, hv w'⟩, h⟩
theorem C_s (ho : ops.toList[i]? = some o) (hg : Region.wanted o (yielded ops a.tmps) = true) (hS : S w) (hv : ∀ w', S w' → (execOp a.eval o).run P w' = .ok (.value v) w') (h : wpC P ops Q S l (a.put o.dst v) w) : wpC P ops Q S ((i, .s) :: l) a w :=
  have ho' := (Array.getElem?_toList (xs := ops) (i := i)).symm.trans ho
  ⟨o, ho', hS, v, fun w' hw => .inl ⟨hg, hv w' hw⟩, h⟩
theorem C_t (ho : ops.toList[i]? = some o) (hg : Region.wanted o (yielded ops a.tmps) = true) (hv : (execOp a.eval o).run P w = .ok (.value v) w) (h : wpC P ops Q S l (a.put o.dst v) w) : wpC P ops Q S ((i, .t) :: l) a w :=
  have ho' := (Array.getElem?_toList (xs := ops) (i := i)).symm.trans ho
  ⟨o, ho', v, .inl ⟨hg, hv⟩, h⟩
theorem C_po (ho : ops.toList[i]? = some o) (hg : Region.wanted o (yielded ops a.tmps) = false) (h : wpC P ops Q S l (a.put o.dst undef) w) : wpC P ops Q S ((i, .p) :: l) a w :=
  have ho' := (Array.getElem?_toList (xs := ops) (i := i)).symm.trans ho
  ⟨o, ho', undef, fun _ => .inr ⟨hg, rfl⟩, h⟩
theorem C_so (ho : ops.toList[i]? = some o) (hg : Region.wanted o (yielded ops a.tmps) = false) (hS : S w) (h : wpC P ops Q S l (a.put o.dst undef) w) : wpC P ops Q S ((i, .s) :: l) a w :=
  have ho' := (Array.getElem?_toList (xs := ops) (i := i)).symm.trans ho
  ⟨o, ho', hS, undef, fun _ _ => .inr ⟨hg, rfl⟩, h⟩
theorem C_to (ho : ops.toList[i]? = some o) (hg : Region.wanted o (yielded ops a.tmps) = false) (h : wpC P ops Q S l (a.put o.dst undef) w) : wpC P ops Q S ((i, .t) :: l) a w :=
  have ho' := (Array.getElem?_toList (xs := ops) (i := i)).symm.trans ho
  ⟨o, ho', undef, .inr ⟨hg, rfl⟩, h⟩
theorem C_eo {b : Bool} (ho : ops.toList[i]? = some o) (hg : Region.wanted o (yielded ops a.tmps) = false) (hS : b = true → S w) (h : wpC P ops Q S l (a.put o.dst undef) w) : wpC P ops Q S ((i, .e b) :: l) a w :=
  have ho' := (Array.getElem?_toList (xs := ops) (i := i)).symm.trans ho
  ⟨o, ho', by unfold wpOp; simp only [ho', hg, Bool.false_eq_true, if_false]; exact ⟨hS, h⟩⟩
/-- An operation that may change the world, what follows behind a name. -/
theorem C_e {b : Bool} (ho : ops.toList[i]? = some o) (hg : Region.wanted o (yielded ops a.tmps) = true)
    (h : ∀ K : Act → World → Prop, (∀ a w, (b = true → S w) → wpC P ops Q S l a w → K a w) → o.wp P a w K Q) : wpC P ops Q S ((i, .e b) :: l) a w :=
  have ho' := (Array.getElem?_toList (xs := ops) (i := i)).symm.trans ho
  ⟨o, ho', by unfold wpOp; simp only [ho', hg, if_true]; exact .inl (h _ fun _ _ h1 h2 => ⟨h1, h2⟩)⟩
theorem C_nil (h : Q .normal a w) : wpC P ops (NoPanic Q) S [] a w := h
end
end PA
