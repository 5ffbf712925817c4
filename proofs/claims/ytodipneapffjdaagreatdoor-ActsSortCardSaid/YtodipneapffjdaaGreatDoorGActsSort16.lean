/- Alternatives in plain: how their loops go on. No program in sight. -/
import Derived.Test.YtodipneapffjdaaGreatDoorGActsSortSVi
import Derived.Test.YtodipneapffjdaaGreatDoorReg
namespace PA
open Go
theorem fmE_size {f : Fm} (h : fmE f = 0) : f.size ≤ 96 := by
  unfold fmE Fm.valid at h
  split at h
  · cases h
  · omega
theorem tops_size : ∀ (f g : Fm), g ∈ f.tops → g.size ≤ f.size := by
  intro f
  refine Fm.ind (P := fun f => ∀ g, g ∈ f.tops → g.size ≤ f.size) (fun o n i k ih g hg => ?_) f
  rw [Fm.tops] at hg
  split at hg
  · have key : ∀ (l : List Fm), (∀ f ∈ l, ∀ g, g ∈ f.tops → g.size ≤ f.size) → g ∈ Fm.topss l → g.size ≤ Fm.sizes l := by
      intro l
      induction l with
      | nil => intro _ h; simp [Fm.topss] at h
      | cons x l ihl =>
        intro h1 h2
        rw [Fm.topss, List.mem_append] at h2
        rw [Fm.sizes]
        rcases h2 with h2 | h2
        · have := h1 x (List.mem_cons_self ..) g h2; omega
        · have := ihl (fun f hf => h1 f (List.mem_cons_of_mem _ hf)) h2; omega
    have := key k ih hg
    rw [Fm.size]; omega
  · rw [List.mem_singleton.1 hg]; exact Nat.le_refl _
theorem parts_size (f : Fm) : Fm.sizes f.parts ≤ f.size := by
  obtain ⟨o, n, i, k⟩ := f
  unfold Fm.parts
  split
  · show Fm.sizes k ≤ _; rw [Fm.size]; omega
  · simp [Fm.sizes]
theorem sizes_append (a b : List Fm) : Fm.sizes (a ++ b) = Fm.sizes a + Fm.sizes b := by
  induction a with
  | nil => simp [Fm.sizes]
  | cons g a ih => rw [List.cons_append, Fm.sizes, Fm.sizes, ih]; omega
theorem pairF_size (a b : Fm) : (pairF a b).size ≤ a.size + b.size + 1 := by
  unfold pairF
  rw [Fm.size, sizes_append]
  have := parts_size a; have := parts_size b; omega
theorem crossO_mem : ∀ {x t y : List Fm}, crossO x t = some y → ∀ f ∈ y, fmE f = 0
  | [], t, y, h, f, hf => by cases h; cases hf
  | a :: x, t, y, h, f, hf => by
    unfold crossO at h
    split at h
    · rename_i hall
      cases hc : crossO x t with
      | none => rw [hc] at h; cases h
      | some z =>
        rw [hc] at h
        cases h
        rcases List.mem_append.1 hf with hf | hf
        · obtain ⟨b, hb, rfl⟩ := List.mem_map.1 hf
          have := List.all_eq_true.1 hall b hb
          simpa using this
        · exact crossO_mem hc f hf
    · cases h
theorem altRefs_mem {of : Nat → Option (List Fm)} {own : List Fm} : ∀ {rs : List Int} {out y : List Fm}, (∀ f ∈ out, fmE f = 0) → altRefs of own rs out = some y → ∀ f ∈ y, fmE f = 0
  | [], out, y, h0, h => by cases h; exact h0
  | r :: rs, out, y, h0, h => by
    unfold altRefs at h
    split at h
    · cases h
    · split at h
      · cases h
      · split at h
        · cases h
        · rename_i z hz
          exact altRefs_mem (fun f hf => (List.mem_append.1 hf).elim (h0 f) (crossO_mem hz f)) h
theorem altN_eq {l : List Cl} {k : Nat} {c : Cl} (h : l[k]? = some c) : altN l k = altC (fun r => if r < k then altN l r else none) c := by
  rw [altN, h]
theorem altN_size {l : List Cl} (hok : clE l = 0) {k : Nat} {y : List Fm} (h : altN l k = some y) : ∀ f ∈ y, f.size ≤ 96 := by
  intro f hf
  cases hc : l[k]? with
  | none => rw [altN, hc] at h; cases h
  | some c =>
    rw [altN_eq hc] at h
    obtain ⟨hk, hcl⟩ := List.getElem?_eq_some_iff.1 hc
    have hb := ((clE_ok hok).2 k hk).2.2
    rw [hcl] at hb
    unfold altC at h
    split at h
    · split at h
      · cases h
        have := tops_size c.body f hf
        have := fmE_size hb
        omega
      · cases h
    · exact fmE_size (altRefs_mem (fun f hf => by cases hf) h f hf)
/-- The pairs of one row, all of them valid. -/
def rowOK (t : List Fm) (a : Fm) : Bool := t.all fun b => decide (fmE (pairF a b) = 0)
theorem crossO_snoc : ∀ (x t : List Fm) (a : Fm), crossO (x ++ [a]) t = match crossO x t with | none => none | some y => if rowOK t a = true then some (y ++ t.map (pairF a)) else none
  | [], t, a => by
    show crossO [a] t = _
    unfold crossO rowOK
    split
    · rename_i h; simp [crossO]
    · rfl
  | z :: x, t, a => by
    rw [List.cons_append]
    unfold crossO
    by_cases hz : (t.all fun b => decide (fmE (pairF z b) = 0)) = true
    · rw [if_pos hz, if_pos hz, crossO_snoc x t a]
      cases crossO x t with
      | none => rfl
      | some y =>
        simp only [Option.map_some]
        by_cases ha : rowOK t a = true
        · rw [if_pos ha, if_pos ha, Option.map_some, List.append_assoc]
        · rw [if_neg ha, if_neg ha]; rfl
    · rw [if_neg hz, if_neg hz]
theorem crossO_take {x t : List Fm} {i : Nat} {a : Fm} (h : x[i]? = some a) {y : List Fm} (hy : crossO (x.take i) t = some y) (hr : rowOK t a = true) : crossO (x.take (i + 1)) t = some (y ++ t.map (pairF a)) := by
  obtain ⟨hi, rfl⟩ := List.getElem?_eq_some_iff.1 h
  rw [List.take_succ_eq_append_getElem hi, crossO_snoc, hy]
  simp only [hr, if_true]
theorem crossO_bad : ∀ {x t : List Fm} {a b : Fm}, a ∈ x → b ∈ t → fmE (pairF a b) ≠ 0 → crossO x t = none
  | [], _, _, _, h, _, _ => by cases h
  | z :: x, t, a, b, ha, hb, hn => by
    unfold crossO
    rcases List.mem_cons.1 ha with rfl | ha
    · rw [if_neg]
      intro hall
      have := List.all_eq_true.1 hall b hb
      simp at this
      exact hn this
    · split
      · rw [crossO_bad ha hb hn]; rfl
      · rfl
theorem rowOK_of {t : List Fm} {a : Fm} (h : ∀ (i : Nat) (b : Fm), t[i]? = some b → fmE (pairF a b) = 0) : rowOK t a = true := by
  unfold rowOK
  rw [List.all_eq_true]
  intro b hb
  obtain ⟨i, hi⟩ := List.mem_iff_getElem?.1 hb
  simpa using h i b hi
theorem altRefs_at {of : Nat → Option (List Fm)} {own out : List Fm} {rs : List Int} {j : Nat} {r : Int} (h : rs[j]? = some r) : altRefs of own (rs.drop j) out = match of r.toNat with
    | none => none
    | some x => if 64 < out.length + x.length * own.length then none else match crossO x own with | none => none | some y => altRefs of own (rs.drop (j + 1)) (out ++ y) := by
  obtain ⟨hj, rfl⟩ := List.getElem?_eq_some_iff.1 h
  rw [List.drop_eq_getElem_cons hj, altRefs]
  rfl
theorem altRefs_end {of : Nat → Option (List Fm)} {own out : List Fm} {rs : List Int} {j : Nat} (h : rs.length ≤ j) : altRefs of own (rs.drop j) out = some out := by
  rw [List.drop_of_length_le h, altRefs]
end PA
/- A region that leaves its order open, some of its effects in groups: a group is walked in every order. Plain Lean, no program in sight. -/
namespace PA
open Go Go.RowKit
inductive It where
  | one (i : Nat) (k : Kd)
  | grp (b : Bool) (E : List Nat)
def It.fl : It → List (Nat × Kd)
  | .one i k => [(i, k)]
  | .grp b E => E.map fun i => (i, .inl b)
def fls (l : List It) : List (Nat × Kd) := l.flatMap It.fl
section
variable {P : Program} {ops : Array Oper} {Q : Exit → Act → World → Prop} {S : World → Prop}
structure InvI (ops : Array Oper) (bf : Array Nat) (listed : Array Bool) (l : List It) : Prop where
  size : listed.size = ops.size
  mem : ∀ i, i ∈ (fls l).map (·.1) ↔ i < ops.size ∧ listed.getD i true = false
  nodup : ((fls l).map (·.1)).Nodup
  pair : l.Pairwise fun x y => ∀ u ∈ x.fl, ∀ v ∈ y.fl, okPair ops bf u v = true
  dep : (fls l).Pairwise fun x y => dirB ops x.1 y.1 = false
  self : ∀ x ∈ fls l, dirB ops x.1 x.1 = false
  closed : ∀ d r, r < ops.size → listed.getD d false = true → (bf.getD d 0).testBit r = true → listed.getD r false = true
def depI (ops : Array Oper) : List (Nat × Kd) → Bool
  | [] => true
  | x :: l => !dirB ops x.1 x.1 && l.all (fun y => !dirB ops x.1 y.1) && depI ops l
theorem depI_ok : ∀ (l : List (Nat × Kd)), depI ops l = true → (l.Pairwise fun x y => dirB ops x.1 y.1 = false) ∧ ∀ x ∈ l, dirB ops x.1 x.1 = false
  | [], _ => ⟨.nil, fun _ h => (by cases h)⟩
  | x :: l, h => by
    simp only [depI, Bool.and_eq_true, List.all_eq_true, Bool.not_eq_true'] at h
    have ih := depI_ok l h.2
    refine ⟨List.pairwise_cons.2 ⟨fun y hy => h.1.2 y hy, ih.1⟩, fun y hy => ?_⟩
    rcases List.mem_cons.1 hy with rfl | hy
    · exact h.1.1
    · exact ih.2 y hy
variable {i : Nat} {l : List It} {a : Act} {w : World} {o : Oper} {v : Value} {K : Act → World → Prop}
end
end PA
/- Effects that a region leaves unordered, said as threads beside each other: each step with what it takes and what it gives. Plain Lean, no program in sight. -/
namespace PA
open Go Go.RowKit
section
variable {P : Program} {ops : Array Oper} {Q : Exit → Act → World → Prop} {S : World → Prop} {W : World}
/-- The operation takes Pre and gives a value and Post of it, whatever stands beside. -/
def DoesS (P : Program) (ops : Array Oper) (W : World) (o : Oper) (a : Act) (Pre : Assn) (Post : Value → Assn) : Prop :=
  Region.wanted o (yielded ops a.tmps) = true ∧ ∀ (w : World) (A : Assn), Sat W w (sep Pre A) →
    (∃ v w', (execOp a.eval o).run P w = .ok (.value v) w' ∧ Sat W w' (sep (Post v) A)) ∨
    (∃ f args w1, (execOp a.eval o).run P w = .ok (.enter f args) w1 ∧ Calls P f args w1 fun e w' => ∃ v, e = .returned v ∧ Sat W w' (sep (Post v) A))
theorem DoesS.put {o : Oper} {a : Act} {Pre : Assn} {Post : Value → Assn} (h : DoesS P ops W o a Pre Post) (hs : ∀ cs b, o.op ≠ .select cs b) {d : Option Tmp} (hd : ∀ t, d = some t → t ∉ o.looksAt ops) (v : Value) : DoesS P ops W o (a.put d v) Pre Post := by
  unfold DoesS at *
  rw [execOp_put o hs a d v hd, wanted_put o a d v hd]
  exact h
theorem DoesS.wpOp {i : Nat} {o : Oper} {a : Act} {Pre : Assn} {Post : Value → Assn} (ho : ops[i]? = some o) (h : DoesS P ops W o a Pre Post) {w : World} {A : Assn} (hw : Sat W w (sep Pre A)) {K : Act → World → Prop}
    (hK : ∀ v w', Sat W w' (sep (Post v) A) → K (a.put o.dst v) w') : Go.wpOp P ops Q i K a w := by
  unfold Go.wpOp
  simp only [ho, h.1, if_true]
  refine .inl ?_
  unfold Oper.wp
  rcases h.2 w A hw with ⟨v, w', h1, h2⟩ | ⟨f, args, w1, h1, h2⟩
  · rw [h1]; exact hK v w' h2
  · rw [h1]
    refine Calls.mono h2 ?_
    rintro e w' ⟨v, rfl, h3⟩
    exact hK v w' h3
def dstOf (ops : Array Oper) (i : Nat) : Option Tmp := (ops[i]?).bind (·.dst)
def puts (ops : Array Oper) (l : List (Nat × Value)) (a : Act) : Act := l.foldl (fun a x => a.put (dstOf ops x.1) x.2) a
theorem puts_append (l m : List (Nat × Value)) (a : Act) : puts ops (l ++ m) a = puts ops m (puts ops l a) := by simp [puts]
def apartB (ops : Array Oper) (i j : Nat) : Bool := match ops[i]?, ops[j]? with | some o, some u => o.apart ops u | _, _ => false
theorem apartB_dst {i j : Nat} (h : apartB ops i j = true) : (∀ d, dstOf ops i = some d → dstOf ops j ≠ some d) ∧ (∀ d, dstOf ops j = some d → dstOf ops i ≠ some d) := by
  unfold apartB at h
  unfold dstOf
  cases hi : ops[i]? with
  | none => rw [hi] at h; cases h
  | some o =>
    cases hj : ops[j]? with
    | none => rw [hi, hj] at h; cases h
    | some u =>
      rw [hi, hj] at h
      obtain ⟨h1, h2, h3⟩ := Oper.apart_spec h
      exact ⟨fun d hd => h2 d hd, fun d hd he => h2 d he hd⟩
theorem puts_swap {i : Nat} (v : Value) : ∀ (l : List (Nat × Value)), (∀ x ∈ l, apartB ops i x.1 = true) → ∀ a : Act, puts ops l (a.put (dstOf ops i) v) = (puts ops l a).put (dstOf ops i) v
  | [], _, _ => rfl
  | x :: l, h, a => by
    show puts ops l ((a.put (dstOf ops i) v).put (dstOf ops x.1) x.2) = (puts ops l (a.put (dstOf ops x.1) x.2)).put (dstOf ops i) v
    rw [Act.put_comm a v x.2 (apartB_dst (h x (by simp))).1, puts_swap v l (fun y hy => h y (by simp [hy]))]
theorem puts_swaps (l : List (Nat × Value)) : ∀ (m : List (Nat × Value)), (∀ x ∈ m, ∀ y ∈ l, apartB ops x.1 y.1 = true) → ∀ a : Act, puts ops l (puts ops m a) = puts ops m (puts ops l a)
  | [], _, _ => rfl
  | x :: m, h, a => by
    show puts ops l (puts ops m (a.put (dstOf ops x.1) x.2)) = puts ops m ((puts ops l a).put (dstOf ops x.1) x.2)
    rw [puts_swaps l m (fun y hy => h y (by simp [hy])), puts_swap x.2 l (h x (by simp))]
theorem DoesS.puts {o : Oper} {i : Nat} {Pre : Assn} {Post : Value → Assn} (ho : ops[i]? = some o) (hs : ∀ cs b, o.op ≠ .select cs b) : ∀ (l : List (Nat × Value)), (∀ x ∈ l, apartB ops x.1 i = true ∨ apartB ops i x.1 = true) → ∀ {a : Act}, DoesS P ops W o a Pre Post → DoesS P ops W o (puts ops l a) Pre Post
  | [], _, _, h => h
  | x :: l, hl, a, h => by
    refine DoesS.puts ho hs l (fun y hy => hl y (by simp [hy])) (h.put hs ?_ x.2)
    intro t ht
    unfold dstOf at ht
    cases hx : ops[x.1]? with
    | none => rw [hx] at ht; cases ht
    | some u =>
      rw [hx] at ht
      rcases hl x (by simp) with h1 | h1
      · unfold apartB at h1
        rw [hx, ho] at h1
        exact (Oper.apart_spec h1).1 t ht
      · unfold apartB at h1
        rw [hx, ho] at h1
        exact (Oper.apart_spec h1).2.2 t ht
structure Thr where
  ids : List Nat
  A : List Value → Assn
structure St where
  dn : List (Nat × Value)
  td : List Nat
  A : List Value → Assn
def St.now (s : St) : Assn := s.A (s.dn.map (·.2))
def apartT (ops : Array Oper) (l m : List Nat) : Prop := ∀ i ∈ l, ∀ j ∈ m, apartB ops i j = true
def St.all (s : St) : List Nat := s.dn.map (·.1) ++ s.td
def apartTB (ops : Array Oper) (l m : List Nat) : Bool := l.all fun i => m.all fun j => apartB ops i j
def pairsTB (ops : Array Oper) : List (List Nat) → Bool
  | [] => true
  | l :: ls => ls.all (apartTB ops l) && pairsTB ops ls
end
end PA
/- A region that leaves its order open: a group of effects, each with the operations behind it that only compute; a group is walked in every order. Plain Lean, no program in sight. -/
namespace PA
open Go Go.RowKit
inductive ItG where
  | one (i : Nat) (k : Kd)
  | grp (b : Bool) (E : List (Nat × List Nat))
def fl1 (b : Bool) (x : Nat × List Nat) : List (Nat × Kd) := (x.1, .inl b) :: x.2.map fun j => (j, .inr none)
def ItG.fl : ItG → List (Nat × Kd)
  | .one i k => [(i, k)]
  | .grp b E => E.flatMap (fl1 b)
def flsG (l : List ItG) : List (Nat × Kd) := l.flatMap ItG.fl
theorem flsG_cons (x : ItG) (l : List ItG) : flsG (x :: l) = x.fl ++ flsG l := by simp [flsG]
theorem flsG_append (l m : List ItG) : flsG (l ++ m) = flsG l ++ flsG m := by simp [flsG]
/-- Operations that only compute, one behind the other. -/
def wpT (P : Program) (ops : Array Oper) (K : Act → World → Prop) : List Nat → Act → World → Prop
  | [], a, w => K a w
  | j :: js, a, w => ∃ o, ops[j]? = some o ∧ ∃ v, (∀ w', YAt P ops o v a w') ∧ wpT P ops K js (a.put o.dst v) w
/-- The effects of a group, in every order that the region leaves open, each with its operations behind it. -/
def wpGrpG (P : Program) (ops : Array Oper) (Q : Exit → Act → World → Prop) (S : World → Prop) (b : Bool) : Nat → List (Nat × List Nat) → (Act → World → Prop) → Act → World → Prop
  | 0, _, K, a, w => K a w
  | n + 1, E, K, a, w => ∀ x ∈ E, (E.all fun r => !((Region.before ops).getD x.1 0).testBit r.1) = true →
      wpOp P ops Q x.1 (fun a' w' => (b = true → S w') ∧ wpT P ops (wpGrpG P ops Q S b n (E.erase x) K) x.2 a' w') a w
def wpJ (P : Program) (ops : Array Oper) (Q : Exit → Act → World → Prop) (S : World → Prop) : List ItG → (Act → World → Prop) → Act → World → Prop
  | [], K, a, w => K a w
  | .one i k :: l, K, a, w => ∃ o, ops[i]? = some o ∧ match k with
    | .inr none => ∃ v, (∀ w', YAt P ops o v a w') ∧ wpJ P ops Q S l K (a.put o.dst v) w
    | .inr (some true) => S w ∧ ∃ v, (∀ w', S w' → YAt P ops o v a w') ∧ wpJ P ops Q S l K (a.put o.dst v) w
    | .inr (some false) => ∃ v, YAt P ops o v a w ∧ wpJ P ops Q S l K (a.put o.dst v) w
    | .inl b => wpOp P ops Q i (fun a' w' => (b = true → S w') ∧ wpJ P ops Q S l K a' w') a w
  | .grp b E :: l, K, a, w => wpGrpG P ops Q S b E.length E (wpJ P ops Q S l K) a w
section
variable {P : Program} {ops : Array Oper} {Q : Exit → Act → World → Prop} {S : World → Prop}
structure okG (ops : Array Oper) (bf : Array Nat) (b : Bool) (E : List (Nat × List Nat)) : Prop where
  own : ∀ x ∈ E, ∀ j ∈ x.2, (bf.getD j 0).testBit x.1 = true
  seq : ∀ x ∈ E, x.2.Pairwise fun u v => okPair ops bf (u, .inr none) (v, .inr none) = true
  other : ∀ x ∈ E, ∀ y ∈ E, x ≠ y → ∀ u ∈ x.2, ∀ v ∈ fl1 b y, okPair ops bf (u, .inr none) v = true
theorem okAll_pw {bf : Array Nat} : ∀ (js : List Nat), okAll ops bf (js.map fun j => (j, (.inr none : Kd))) = true → js.Pairwise fun u v => okPair ops bf (u, .inr none) (v, .inr none) = true
  | [], _ => .nil
  | j :: js, h => by
    simp only [List.map_cons, okAll, Bool.and_eq_true, List.all_eq_true] at h
    refine List.pairwise_cons.2 ⟨fun y hy => h.1.1 _ (List.mem_map.2 ⟨y, hy, rfl⟩), okAll_pw js h.2⟩
theorem okG.erase {bf : Array Nat} {b : Bool} {E : List (Nat × List Nat)} (h : okG ops bf b E) (x : Nat × List Nat) : okG ops bf b (E.erase x) :=
  ⟨fun y hy => h.own y (List.mem_of_mem_erase hy), fun y hy => h.seq y (List.mem_of_mem_erase hy), fun y hy z hz => h.other y (List.mem_of_mem_erase hy) z (List.mem_of_mem_erase hz)⟩
theorem wpT_J (l : List ItG) (K : Act → World → Prop) : ∀ (js : List Nat) (a : Act) (w : World), wpT P ops (wpJ P ops Q S l K) js a w → wpJ P ops Q S (js.map (fun j => .one j (.inr none)) ++ l) K a w
  | [], _, _, h => h
  | j :: js, a, w, h => by
    obtain ⟨o, ho, v, hy, h⟩ := h
    exact ⟨o, ho, v, hy, wpT_J l K js _ w h⟩
theorem wpJ_append (l m : List ItG) (K : Act → World → Prop) : wpJ P ops Q S (l ++ m) K = wpJ P ops Q S l (wpJ P ops Q S m K) := by
  induction l with
  | nil => rfl
  | cons x l ih =>
    funext a w
    cases x with
    | one i k => rcases k with b | _ | _ | _ <;> simp only [List.cons_append, wpJ, ih]
    | grp b E => simp only [List.cons_append, wpJ, ih]
theorem wpJ_empty {K : Act → World → Prop} : ∀ (l : List ItG), flsG l = [] → ∀ (a : Act) (w : World), wpJ P ops Q S l K a w → K a w
  | [], _, _, _, h => h
  | .one i k :: l, he, _, _, _ => by simp [flsG_cons, ItG.fl] at he
  | .grp b E :: l, he, a, w, h => by
    rw [flsG_cons, List.append_eq_nil_iff] at he
    have hE : E = [] := by
      cases E with
      | nil => rfl
      | cons x E => have := he.1; simp [ItG.fl, fl1] at this
    subst hE
    exact wpJ_empty l he.2 a w h
theorem pullJ {j : Nat} {kj : Kd} {oj : Oper} {bf : Array Nat} (hj : ops[j]? = some oj) (hsel : ∀ (j : Nat) (o : Oper) cs b, ops[j]? = some o → o.op ≠ .select cs b) (hQ : ∀ c a d v w, Q (.panic c) (a.put d v) w → Q (.panic c) a w)
    (T T' : Act → World → Prop) (hT : ∀ a w, T a w → wpOp P ops Q j (fun a' w' => T' a' w' ∧ (kj = .e true → S w') ∧ (kj.eff = false → w' = w)) a w) :
    ∀ (l1 : List ItG), (∀ x ∈ flsG l1, okPair ops bf x (j, kj) = true ∧ (bf.getD j 0).testBit x.1 = false) → ∀ (a : Act) (w : World), wpJ P ops Q S l1 T a w →
      wpOp P ops Q j (fun a' w' => wpJ P ops Q S l1 T' a' w' ∧ (kj = .e true → S w') ∧ (kj.eff = false → w' = w)) a w
  | [], _, a, w, h => hT a w h
  | .grp b E :: l1, hl, a, w, h => by
    have hE : E = [] := by
      cases E with
      | nil => rfl
      | cons r E =>
        obtain ⟨hp, hnd⟩ := hl (r.1, .inl b) (by simp [flsG_cons, ItG.fl, fl1])
        simp only [okPair, hnd, Bool.false_or, Bool.and_eq_true, Kd.eff, Bool.not_true, Bool.false_and] at hp
        exact absurd hp.2 (by simp)
    subst hE
    exact wpOp_mono (fun a' w' h => h) (pullJ hj hsel hQ T T' hT l1 (fun x hx => hl x (by rw [flsG_cons]; exact List.mem_append_right _ hx)) a w h)
  | .one r kr :: l1, hl, a, w, h => by
    obtain ⟨o, ho, h⟩ := h
    obtain ⟨hp, hnd⟩ := hl (r, kr) (by simp [flsG_cons, ItG.fl])
    simp only [okPair, hnd, Bool.false_or, Bool.and_eq_true, ho, hj] at hp
    obtain ⟨_, ⟨hne, hap⟩, hk⟩ := hp
    have ih := pullJ hj hsel hQ T T' hT l1 (fun x hx => hl x (by rw [flsG_cons]; exact List.mem_append_right _ hx))
    have go : ∀ (v : Value), wpJ P ops Q S l1 T (a.put o.dst v) w →
        wpOp P ops Q j (fun a' w' => Alk ops o a a' ∧ wpJ P ops Q S l1 T' (a'.put o.dst v) w' ∧ (kj = .e true → S w') ∧ (kj.eff = false → w' = w)) a w := fun v hv =>
      wpOp_swap hj hap (fun cs b => hsel r o cs b ho) (fun cs b => hsel j oj cs b hj) hQ (ih _ _ hv)
    rcases kr with b | _ | _ | _
    case inr.none =>
      obtain ⟨v, hy, h⟩ := h
      exact wpOp_mono (fun a' w' ⟨h1, h2, h3, h4⟩ => ⟨⟨o, ho, v, fun w' => (hy w').alk h1, h2⟩, h3, h4⟩) (go v h)
    case inr.some.true =>
      obtain ⟨hS, v, hy, h⟩ := h
      refine wpOp_mono (fun a' w' ⟨h1, h2, h3, h4⟩ => ⟨⟨o, ho, ?_, v, fun w' hw' => (hy w' hw').alk h1, h2⟩, h3, h4⟩) (go v h)
      rcases kj with b | _
      · exact h3 (by simp at hk; rw [hk])
      · rw [h4 rfl]; exact hS
    case inr.some.false =>
      obtain ⟨v, hy, h⟩ := h
      refine wpOp_mono (fun a' w' ⟨h1, h2, h3, h4⟩ => ⟨⟨o, ho, v, ?_, h2⟩, h3, h4⟩) (go v h)
      rcases kj with b | _
      · simp at hk
      · rw [h4 rfl]; exact hy.alk h1
    case inl => simp [Kd.eff] at hne
structure InvJ (ops : Array Oper) (bf : Array Nat) (listed : Array Bool) (l : List ItG) : Prop where
  size : listed.size = ops.size
  mem : ∀ i, i ∈ (flsG l).map (·.1) ↔ i < ops.size ∧ listed.getD i true = false
  nodup : ((flsG l).map (·.1)).Nodup
  pair : l.Pairwise fun x y => ∀ u ∈ x.fl, ∀ v ∈ y.fl, okPair ops bf u v = true
  dep : (flsG l).Pairwise fun x y => dirB ops x.1 y.1 = false
  self : ∀ x ∈ flsG l, dirB ops x.1 x.1 = false
  grp : ∀ b E, ItG.grp b E ∈ l → okG ops bf b E
  closed : ∀ d r, r < ops.size → listed.getD d false = true → (bf.getD d 0).testBit r = true → listed.getD r false = true
def pairJ (ops : Array Oper) (bf : Array Nat) : List ItG → Bool
  | [] => true
  | x :: l => l.all (fun y => x.fl.all fun u => y.fl.all fun v => okPair ops bf u v) && pairJ ops bf l
theorem pairJ_ok {bf : Array Nat} : ∀ (l : List ItG), pairJ ops bf l = true → l.Pairwise fun x y => ∀ u ∈ x.fl, ∀ v ∈ y.fl, okPair ops bf u v = true
  | [], _ => .nil
  | x :: l, h => by
    simp only [pairJ, Bool.and_eq_true, List.all_eq_true] at h
    exact List.pairwise_cons.2 ⟨fun y hy u hu v hv => h.1 y hy u hu v hv, pairJ_ok l h.2⟩
variable {i : Nat} {l : List ItG} {a : Act} {w : World} {o : Oper} {v : Value} {K : Act → World → Prop}
theorem J_p (ho : ops.toList[i]? = some o) (hg : Region.wanted o (yielded ops a.tmps) = true) (hv : ∀ w', (execOp a.eval o).run P w' = .ok (.value v) w') (h : wpJ P ops Q S l K (a.put o.dst v) w) : wpJ P ops Q S (.one i .p :: l) K a w :=
  have ho' := (Array.getElem?_toList (xs := ops) (i := i)).symm.trans ho
  ⟨o, ho', v, fun w' => .inl ⟨hg, hv w'⟩, h⟩
theorem J_s (ho : ops.toList[i]? = some o) (hg : Region.wanted o (yielded ops a.tmps) = true) (hS : S w) (hv : ∀ w', S w' → (execOp a.eval o).run P w' = .ok (.value v) w') (h : wpJ P ops Q S l K (a.put o.dst v) w) : wpJ P ops Q S (.one i .s :: l) K a w :=
  have ho' := (Array.getElem?_toList (xs := ops) (i := i)).symm.trans ho
  ⟨o, ho', hS, v, fun w' hw => .inl ⟨hg, hv w' hw⟩, h⟩
theorem J_t (ho : ops.toList[i]? = some o) (hg : Region.wanted o (yielded ops a.tmps) = true) (hv : (execOp a.eval o).run P w = .ok (.value v) w) (h : wpJ P ops Q S l K (a.put o.dst v) w) : wpJ P ops Q S (.one i .t :: l) K a w :=
  have ho' := (Array.getElem?_toList (xs := ops) (i := i)).symm.trans ho
  ⟨o, ho', v, .inl ⟨hg, hv⟩, h⟩
theorem J_po (ho : ops.toList[i]? = some o) (hg : Region.wanted o (yielded ops a.tmps) = false) (h : wpJ P ops Q S l K (a.put o.dst undef) w) : wpJ P ops Q S (.one i .p :: l) K a w :=
  have ho' := (Array.getElem?_toList (xs := ops) (i := i)).symm.trans ho
  ⟨o, ho', undef, fun _ => .inr ⟨hg, rfl⟩, h⟩
theorem J_so (ho : ops.toList[i]? = some o) (hg : Region.wanted o (yielded ops a.tmps) = false) (hS : S w) (h : wpJ P ops Q S l K (a.put o.dst undef) w) : wpJ P ops Q S (.one i .s :: l) K a w :=
  have ho' := (Array.getElem?_toList (xs := ops) (i := i)).symm.trans ho
  ⟨o, ho', hS, undef, fun _ _ => .inr ⟨hg, rfl⟩, h⟩
theorem J_to (ho : ops.toList[i]? = some o) (hg : Region.wanted o (yielded ops a.tmps) = false) (h : wpJ P ops Q S l K (a.put o.dst undef) w) : wpJ P ops Q S (.one i .t :: l) K a w :=
  have ho' := (Array.getElem?_toList (xs := ops) (i := i)).symm.trans ho
  ⟨o, ho', undef, .inr ⟨hg, rfl⟩, h⟩
theorem J_e {b : Bool} (ho : ops.toList[i]? = some o) (hg : Region.wanted o (yielded ops a.tmps) = true)
    (h : ∀ K' : Act → World → Prop, (∀ a w, (b = true → S w) → wpJ P ops Q S l K a w → K' a w) → o.wp P a w K' Q) : wpJ P ops Q S (.one i (.e b) :: l) K a w :=
  have ho' := (Array.getElem?_toList (xs := ops) (i := i)).symm.trans ho
  ⟨o, ho', by unfold wpOp; simp only [ho', hg, if_true]; exact .inl (h _ fun _ _ h1 h2 => ⟨h1, h2⟩)⟩
theorem J_nil (h : K a w) : wpJ P ops Q S [] K a w := h
end
end PA
