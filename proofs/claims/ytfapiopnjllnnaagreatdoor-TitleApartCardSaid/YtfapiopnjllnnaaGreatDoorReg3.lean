/- A region that leaves its order open, some of its effects in groups: a group is walked in every order. Plain Lean, no program in sight. -/
import Derived.Test.YtfapiopnjllnnaaGreatDoorReg
namespace PA
open Go Go.RowKit
inductive It where
  | one (i : Nat) (k : Kd)
  | grp (b : Bool) (E : List Nat)
def It.fl : It → List (Nat × Kd)
  | .one i k => [(i, k)]
  | .grp b E => E.map fun i => (i, .inl b)
def fls (l : List It) : List (Nat × Kd) := l.flatMap It.fl
theorem fls_cons (x : It) (l : List It) : fls (x :: l) = x.fl ++ fls l := by simp [fls]
theorem fls_append (l m : List It) : fls (l ++ m) = fls l ++ fls m := by simp [fls]
/-- The effects of a group, in every order that the region leaves open. -/
def wpGrp (P : Program) (ops : Array Oper) (Q : Exit → Act → World → Prop) (S : World → Prop) (b : Bool) : Nat → List Nat → (Act → World → Prop) → Act → World → Prop
  | 0, _, K, a, w => K a w
  | n + 1, E, K, a, w => ∀ i ∈ E, (E.all fun r => !((Region.before ops).getD i 0).testBit r) = true → wpOp P ops Q i (fun a' w' => (b = true → S w') ∧ wpGrp P ops Q S b n (E.erase i) K a' w') a w
def wpI (P : Program) (ops : Array Oper) (Q : Exit → Act → World → Prop) (S : World → Prop) : List It → (Act → World → Prop) → Act → World → Prop
  | [], K, a, w => K a w
  | .one i k :: l, K, a, w => ∃ o, ops[i]? = some o ∧ match k with
    | .inr none => ∃ v, (∀ w', YAt P ops o v a w') ∧ wpI P ops Q S l K (a.put o.dst v) w
    | .inr (some true) => S w ∧ ∃ v, (∀ w', S w' → YAt P ops o v a w') ∧ wpI P ops Q S l K (a.put o.dst v) w
    | .inr (some false) => ∃ v, YAt P ops o v a w ∧ wpI P ops Q S l K (a.put o.dst v) w
    | .inl b => wpOp P ops Q i (fun a' w' => (b = true → S w') ∧ wpI P ops Q S l K a' w') a w
  | .grp b E :: l, K, a, w => wpGrp P ops Q S b E.length E (wpI P ops Q S l K) a w
section
variable {P : Program} {ops : Array Oper} {Q : Exit → Act → World → Prop} {S : World → Prop}
theorem wpI_append (l m : List It) (K : Act → World → Prop) : wpI P ops Q S (l ++ m) K = wpI P ops Q S l (wpI P ops Q S m K) := by
  induction l with
  | nil => rfl
  | cons x l ih =>
    funext a w
    cases x with
    | one i k => rcases k with b | _ | _ | _ <;> simp only [List.cons_append, wpI, ih]
    | grp b E => simp only [List.cons_append, wpI, ih]
theorem wpI_empty {K : Act → World → Prop} : ∀ (l : List It), fls l = [] → ∀ (a : Act) (w : World), wpI P ops Q S l K a w → K a w
  | [], _, _, _, h => h
  | .one i k :: l, he, _, _, _ => by simp [fls_cons, It.fl] at he
  | .grp b E :: l, he, a, w, h => by
    rw [fls_cons, List.append_eq_nil_iff] at he
    have hE : E = [] := by have := he.1; simpa [It.fl] using this
    subst hE
    exact wpI_empty l he.2 a w h
theorem pullK {j : Nat} {kj : Kd} {oj : Oper} {bf : Array Nat} (hj : ops[j]? = some oj) (hsel : ∀ (j : Nat) (o : Oper) cs b, ops[j]? = some o → o.op ≠ .select cs b) (hQ : ∀ c a d v w, Q (.panic c) (a.put d v) w → Q (.panic c) a w)
    (T T' : Act → World → Prop) (hT : ∀ a w, T a w → wpOp P ops Q j (fun a' w' => T' a' w' ∧ (kj = .e true → S w') ∧ (kj.eff = false → w' = w)) a w) :
    ∀ (l1 : List It), (∀ x ∈ fls l1, okPair ops bf x (j, kj) = true ∧ (bf.getD j 0).testBit x.1 = false) → ∀ (a : Act) (w : World), wpI P ops Q S l1 T a w →
      wpOp P ops Q j (fun a' w' => wpI P ops Q S l1 T' a' w' ∧ (kj = .e true → S w') ∧ (kj.eff = false → w' = w)) a w
  | [], _, a, w, h => hT a w h
  | .grp b E :: l1, hl, a, w, h => by
    have hE : E = [] := by
      cases E with
      | nil => rfl
      | cons r E =>
        obtain ⟨hp, hnd⟩ := hl (r, .inl b) (by simp [fls_cons, It.fl])
        simp only [okPair, hnd, Bool.false_or, Bool.and_eq_true, Kd.eff, Bool.not_true, Bool.false_and] at hp
        exact absurd hp.2 (by simp)
    subst hE
    exact wpOp_mono (fun a' w' h => h) (pullK hj hsel hQ T T' hT l1 (fun x hx => hl x (by rw [fls_cons]; exact List.mem_append_right _ hx)) a w h)
  | .one r kr :: l1, hl, a, w, h => by
    obtain ⟨o, ho, h⟩ := h
    obtain ⟨hp, hnd⟩ := hl (r, kr) (by simp [fls_cons, It.fl])
    simp only [okPair, hnd, Bool.false_or, Bool.and_eq_true, ho, hj] at hp
    obtain ⟨_, ⟨hne, hap⟩, hk⟩ := hp
    have ih := pullK hj hsel hQ T T' hT l1 (fun x hx => hl x (by rw [fls_cons]; exact List.mem_append_right _ hx))
    have go : ∀ (v : Value), wpI P ops Q S l1 T (a.put o.dst v) w →
        wpOp P ops Q j (fun a' w' => Alk ops o a a' ∧ wpI P ops Q S l1 T' (a'.put o.dst v) w' ∧ (kj = .e true → S w') ∧ (kj.eff = false → w' = w)) a w := fun v hv =>
      wpOp_swap hj hap (fun cs b => hsel r o cs b ho) (fun cs b => hsel j oj cs b hj) hQ (ih _ _ hv)
    rcases kr with b | _ | _ | _
    case inr.none =>
      obtain ⟨v, hy, h⟩ := h
      exact wpOp_mono (fun a' w' ⟨h1, h2, h3, h4⟩ => ⟨⟨o, ho, v, fun w' => (hy w').alk h1, h2⟩, h3, h4⟩) (go v h)
    case inr.some.true =>
      obtain ⟨hS, v, hy, h⟩ := h
      refine wpOp_mono (fun a' w' ⟨h1, h2, h3, h4⟩ => ⟨⟨o, ho, ?_, v, fun w' hw' => (hy w' hw').alk h1, h2⟩, h3, h4⟩) (go v h)
      rcases kj with b | _
      · exact h3 (by simp at hk; rw [hk])
      · rw [h4 rfl]; exact hS
    case inr.some.false =>
      obtain ⟨v, hy, h⟩ := h
      refine wpOp_mono (fun a' w' ⟨h1, h2, h3, h4⟩ => ⟨⟨o, ho, v, ?_, h2⟩, h3, h4⟩) (go v h)
      rcases kj with b | _
      · simp at hk
      · rw [h4 rfl]; exact hy.alk h1
    case inl => simp [Kd.eff] at hne
structure InvI (ops : Array Oper) (bf : Array Nat) (listed : Array Bool) (l : List It) : Prop where
  size : listed.size = ops.size
  mem : ∀ i, i ∈ (fls l).map (·.1) ↔ i < ops.size ∧ listed.getD i true = false
  nodup : ((fls l).map (·.1)).Nodup
  pair : l.Pairwise fun x y => ∀ u ∈ x.fl, ∀ v ∈ y.fl, okPair ops bf u v = true
  dep : (fls l).Pairwise fun x y => dirB ops x.1 y.1 = false
  self : ∀ x ∈ fls l, dirB ops x.1 x.1 = false
  closed : ∀ d r, r < ops.size → listed.getD d false = true → (bf.getD d 0).testBit r = true → listed.getD r false = true
theorem any_of_I (hsel : ∀ (j : Nat) (o : Oper) cs b, ops[j]? = some o → o.op ≠ .select cs b) (hQ : ∀ c a d v w, Q (.panic c) (a.put d v) w → Q (.panic c) a w)
    (hbf : okBefore ops (Region.before ops) = true) (hon : ∀ (j : Nat) (o : Oper), ops[j]? = some o → ∀ e ∈ o.after, Region.binds .any e = true → e.on < ops.size) :
    ∀ (n : Nat) (l : List It) (listed : Array Bool), (fls l).length = n → InvI ops (Region.before ops) listed l → ∀ (a : Act) (w : World), wpI P ops Q S l (Q .normal) a w → wpAny P .any ops Q n listed a w := by
  obtain ⟨bf, hbe⟩ : ∃ bf, bf = Region.before ops := ⟨_, rfl⟩
  have getT : ∀ (listed : Array Bool) (i : Nat), listed.size = ops.size → i < ops.size → (listed.getD i false = true ↔ ¬ listed.getD i true = false) := fun listed i hs hi => by
    simp [Array.getD, hs, hi]
  have nil : ∀ (listed : Array Bool) (l : List It), fls l = [] → InvI ops (Region.before ops) listed l → Region.ready .any ops listed = [] := fun listed l hl hI => by
    simp only [Region.ready, List.filter_eq_nil_iff, List.mem_range]
    intro i hi
    have h' : ¬ listed.getD i true = false := fun hh => by have := (hI.mem i).2 ⟨hi, hh⟩; rw [hl] at this; simp at this
    have h'' : listed.getD i true = true := by simpa using h'
    simp [h'']
  intro n
  induction n with
  | zero =>
    intro l listed hn hI a w h
    have hl := List.eq_nil_of_length_eq_zero hn
    exact ⟨nil _ l hl hI, wpI_empty l hl a w h⟩
  | succ n ih =>
    intro l listed hn hI a w h
    refine ⟨fun hr => ?_, fun j hj => ?_⟩
    · exfalso
      cases hfl : fls l with
      | nil => rw [hfl] at hn; simp at hn
      | cons x xs =>
        have hx := (hI.mem x.1).1 (by rw [hfl]; simp)
        have hmem : x.1 ∈ Region.ready .any ops listed := by
          simp only [Region.ready, List.mem_filter, List.mem_range]
          refine ⟨hx.1, ?_⟩
          have : listed.getD x.1 true = false := hx.2
          have ho : ops[x.1]? = some ops[x.1] := Array.getElem?_eq_getElem hx.1
          simp only [this, Bool.not_false, Bool.true_and, ho, Option.map_some, Option.getD_some]
          rw [Array.all_eq_true]
          intro k hk
          have hmem := Array.getElem_mem hk
          by_cases hb : Region.binds .any (ops[x.1].after[k]) = true
          · have hlt := hon x.1 _ ho _ hmem hb
            have hdir : dirB ops x.1 (ops[x.1].after[k]).on = true := by
              simp only [dirB, ho, Array.any_eq_true]
              exact ⟨k, hk, by simp [hb]⟩
            have hnot : (ops[x.1].after[k]).on ∉ (fls l).map (·.1) := by
              intro hm
              rw [hfl] at hm
              simp only [List.map_cons, List.mem_cons, List.mem_map] at hm
              rcases hm with hm | ⟨y, hy, hm⟩
              · have := hI.self x (by rw [hfl]; simp)
                rw [hm] at hdir
                rw [hdir] at this; cases this
              · have hd := hI.dep
                rw [hfl] at hd
                have := (List.pairwise_cons.1 hd).1 y hy
                rw [hm, hdir] at this
                cases this
            have h2 : ¬ listed.getD (ops[x.1].after[k]).on true = false := fun e => hnot ((hI.mem _).2 ⟨hlt, e⟩)
            have := (getT listed _ hI.size hlt).2 h2
            simp [this]
          · simp [hb]
        rw [hr] at hmem; cases hmem
    · simp only [Region.ready, List.mem_filter, List.mem_range, Bool.and_eq_true, Bool.not_eq_true'] at hj
      obtain ⟨hjs, hjl, hja⟩ := hj
      have hjm := (hI.mem j).2 ⟨hjs, hjl⟩
      cases hoj : ops[j]? with
      | none => simp [hoj] at hja
      | some oj =>
        simp only [hoj, Option.map_some, Option.getD_some] at hja
        have hdirl : ∀ d, dirB ops j d = true → listed.getD d false = true := fun d hd => by
          simp only [dirB, hoj, Array.any_eq_true] at hd
          obtain ⟨k, hk, hd⟩ := hd
          simp only [Bool.and_eq_true, beq_iff_eq] at hd
          rw [Array.all_eq_true] at hja
          have := hja k hk
          rw [hd.1] at this
          simpa [hd.2] using this
        have hbl : ∀ r, r < ops.size → ((Region.before ops).getD j 0).testBit r = true → listed.getD r false = true := fun r hr hb => by
          simp only [okBefore, List.all_eq_true, List.mem_range] at hbf
          have := hbf j hjs r hr
          simp only [hb, Bool.not_true, Bool.false_or, Bool.or_eq_true, List.any_eq_true, List.mem_range, Bool.and_eq_true] at this
          rcases this with h | ⟨d, _, h1, h2⟩
          · exact hdirl r h
          · exact hI.closed d r hr (hdirl d h1) h2
        have hnotin : ∀ x ∈ fls l, ((Region.before ops).getD j 0).testBit x.1 = false := fun x hx => by
          have hxm := (hI.mem x.1).1 (List.mem_map.2 ⟨x, hx, rfl⟩)
          cases hb : ((Region.before ops).getD j 0).testBit x.1 with
          | false => rfl
          | true => exact absurd hxm.2 ((getT listed x.1 hI.size hxm.1).1 (hbl x.1 hxm.1 hb))
        have hclosed : ∀ d r, r < ops.size → (listed.setIfInBounds j true).getD d false = true → ((Region.before ops).getD d 0).testBit r = true → (listed.setIfInBounds j true).getD r false = true := by
          intro d r hr hd hb
          by_cases e : r = j
          · subst e; simp [Array.getD, hI.size, hr]
          · have hg : (listed.setIfInBounds j true).getD r false = listed.getD r false := getD_set_ne _ _ _ _ _ e
            rw [hg]
            by_cases e2 : d = j
            · subst e2; exact hbl r hr hb
            · have hg2 : (listed.setIfInBounds j true).getD d false = listed.getD d false := getD_set_ne _ _ _ _ _ e2
              rw [hg2] at hd
              exact hI.closed d r hr hd hb
        have hgetj : (listed.setIfInBounds j true).getD j true = true := by simp [Array.getD, hI.size, hjs]
        have hmemj : ∀ (F : List Nat), (∀ i, i ∈ F ↔ i ∈ (fls l).map (·.1) ∧ i ≠ j) → ∀ i, i ∈ F ↔ i < ops.size ∧ (listed.setIfInBounds j true).getD i true = false := fun F hF i => by
          rw [hF, hI.mem]
          by_cases e : i = j
          · subst e; simp [hgetj]
          · have hg : (listed.setIfInBounds j true).getD i true = listed.getD i true := getD_set_ne _ _ _ _ _ e
            rw [hg]; simp [e]
        obtain ⟨⟨j', kj⟩, hxf, hje⟩ := List.mem_map.1 hjm
        obtain rfl : j' = j := hje
        obtain ⟨it, hit, hin⟩ := List.mem_flatMap.1 hxf
        obtain ⟨l1, l2, rfl⟩ := List.append_of_mem hit
        have hpw := List.pairwise_append.1 hI.pair
        have hfe : fls (l1 ++ it :: l2) = fls l1 ++ (it.fl ++ fls l2) := by rw [fls_append, fls_cons]
        have hok : ∀ x ∈ fls l1, okPair ops (Region.before ops) x (j', kj) = true ∧ ((Region.before ops).getD j' 0).testBit x.1 = false := fun x hx => by
          obtain ⟨y, hy, hxy⟩ := List.mem_flatMap.1 hx
          exact ⟨hpw.2.2 y hy it (by simp) x hxy (j', kj) hin, hnotin x (by rw [hfe]; exact List.mem_append_left _ hx)⟩
        have hnd := hI.nodup
        rw [hfe] at hnd
        rw [wpI_append] at h
        cases it with
        | one i k =>
          simp only [It.fl, List.mem_singleton, Prod.mk.injEq] at hin
          obtain ⟨rfl, rfl⟩ := hin
          refine wpOp_mono (fun a' w' ⟨h1, _, _⟩ => ih (l1 ++ l2) (listed.setIfInBounds j' true) ?_ ?_ a' w' (by rw [wpI_append]; exact h1)) (pullK (kj := kj) hoj hsel hQ (wpI P ops Q S (.one j' kj :: l2) (Q .normal)) (wpI P ops Q S l2 (Q .normal)) ?_ l1 hok a w h)
          · rintro a w ⟨o, ho, h⟩
            rcases kj with b | _ | _ | _
            case inr.none => obtain ⟨v, hy, h⟩ := h; exact (hy w).wpOp ho ⟨h, fun h => (by cases h), fun _ => rfl⟩
            case inr.some.true => obtain ⟨hS, v, hy, h⟩ := h; exact (hy w hS).wpOp ho ⟨h, fun h => (by cases h), fun _ => rfl⟩
            case inr.some.false => obtain ⟨v, hy, h⟩ := h; exact hy.wpOp ho ⟨h, fun h => (by cases h), fun _ => rfl⟩
            case inl => exact wpOp_mono (fun a' w' ⟨h1, h2⟩ => ⟨h2, fun hb => h1 (by cases hb; rfl), fun hb => (by simp [Kd.eff] at hb)⟩) h
          · rw [hfe] at hn; rw [fls_append]; simp [It.fl] at hn ⊢; omega
          · have hpf : List.Sublist (l1 ++ l2) (l1 ++ It.one j' kj :: l2) := List.Sublist.append_left (List.sublist_cons_self _ _) _
            have hsf : List.Sublist (fls (l1 ++ l2)) (fls (l1 ++ It.one j' kj :: l2)) := by
              rw [hfe, fls_append]
              exact List.Sublist.append_left (List.sublist_append_right _ _) _
            refine ⟨by simp [hI.size], hmemj _ fun i => ?_, ?_, hI.pair.sublist hpf, hI.dep.sublist hsf, fun x hx => hI.self x (hsf.subset hx), hclosed⟩
            · rw [hfe, fls_append]
              simp only [It.fl, List.map_append, List.map_cons, List.map_nil, List.mem_append, List.mem_cons, List.not_mem_nil, or_false]
              have hn2 := hI.nodup
              rw [hfe] at hn2
              simp only [It.fl, List.map_append, List.map_cons, List.map_nil, List.nodup_append, List.mem_append, List.mem_cons, List.not_mem_nil, or_false] at hn2
              constructor
              · rintro (hi | hi)
                · exact ⟨.inl hi, fun e => hn2.2.2 i hi j' (.inl rfl) e⟩
                · exact ⟨.inr (.inr hi), fun e => hn2.2.1.2.2 j' rfl i hi e.symm⟩
              · rintro ⟨hi | hi | hi, hne⟩
                · exact .inl hi
                · exact absurd hi hne
                · exact .inr hi
            · exact hI.nodup.sublist (hsf.map _)
        | grp b E =>
          simp only [It.fl, List.mem_map, Prod.mk.injEq] at hin
          obtain ⟨i, hiE, rfl, rfl⟩ := hin
          have hn2 := hI.nodup
          rw [hfe] at hn2
          simp only [It.fl, List.map_append, List.map_map, List.nodup_append, List.mem_append] at hn2
          have hEm : List.map ((fun x : Nat × Kd => x.1) ∘ fun i => (i, (.inl b : Kd))) E = E := by
            rw [show ((fun x : Nat × Kd => x.1) ∘ fun i => (i, (.inl b : Kd))) = id from rfl, List.map_id]
          rw [hEm] at hn2
          have hEn : E.Nodup := hn2.2.1.1
          refine wpOp_mono (fun a' w' ⟨h1, _, _⟩ => ih (l1 ++ .grp b (E.erase i) :: l2) (listed.setIfInBounds i true) ?_ ?_ a' w' (by rw [wpI_append]; exact h1)) (pullK (kj := .inl b) hoj hsel hQ (wpI P ops Q S (.grp b E :: l2) (Q .normal)) (wpI P ops Q S (.grp b (E.erase i) :: l2) (Q .normal)) ?_ l1 hok a w h)
          · intro a w h
            have hready : (E.all fun r => !((Region.before ops).getD i 0).testBit r) = true := by
              rw [List.all_eq_true]
              intro r hr
              have h9 : ((Region.before ops).getD i 0).testBit r = false := hnotin (r, .inl b) (by rw [hfe]; refine List.mem_append_right _ (List.mem_append_left _ ?_); exact List.mem_map.2 ⟨r, hr, rfl⟩)
              rw [h9]; rfl
            have hlen : E.length = (E.erase i).length + 1 := by
              have hp : 0 < E.length := List.length_pos_of_mem hiE
              rw [List.length_erase_of_mem hiE]; omega
            simp only [wpI] at h ⊢
            rw [hlen] at h
            exact wpOp_mono (fun a' w' ⟨h1, h2⟩ => ⟨h2, fun hb => h1 (by cases hb; rfl), fun hb => (by simp [Kd.eff] at hb)⟩) (h i hiE hready)
          · rw [hfe] at hn
            rw [fls_append, fls_cons]
            have hp : 0 < E.length := List.length_pos_of_mem hiE
            simp only [It.fl, List.length_append, List.length_map, List.length_erase_of_mem hiE] at hn ⊢
            omega
          · have hsE : List.Sublist (It.fl (.grp b (E.erase i))) (It.fl (.grp b E)) := List.Sublist.map _ List.erase_sublist
            have hsf : List.Sublist (fls (l1 ++ It.grp b (E.erase i) :: l2)) (fls (l1 ++ It.grp b E :: l2)) := by
              rw [hfe, fls_append, fls_cons]
              exact List.Sublist.append_left (List.Sublist.append_right hsE _) _
            refine ⟨by simp [hI.size], hmemj _ fun k => ?_, hI.nodup.sublist (hsf.map _), ?_, hI.dep.sublist hsf, fun x hx => hI.self x (hsf.subset hx), hclosed⟩
            · rw [hfe, fls_append, fls_cons]
              simp only [It.fl, List.map_append, List.map_map, List.mem_append]
              have hEm2 : List.map ((fun x : Nat × Kd => x.1) ∘ fun i => (i, (.inl b : Kd))) (E.erase i) = E.erase i := by
                rw [show ((fun x : Nat × Kd => x.1) ∘ fun i => (i, (.inl b : Kd))) = id from rfl, List.map_id]
              rw [hEm, hEm2, hEn.mem_erase_iff]
              constructor
              · rintro (hi | ⟨h1, h2⟩ | hi)
                · exact ⟨.inl hi, fun e => hn2.2.2 k hi i (.inl hiE) e⟩
                · exact ⟨.inr (.inl h2), h1⟩
                · exact ⟨.inr (.inr hi), fun e => hn2.2.1.2.2 i hiE k hi e.symm⟩
              · rintro ⟨hi | hi | hi, hne⟩
                · exact .inl hi
                · exact .inr (.inl ⟨hne, hi⟩)
                · exact .inr (.inr hi)
            · have hc := List.pairwise_cons.1 hpw.2.1
              refine List.pairwise_append.2 ⟨hpw.1, List.pairwise_cons.2 ⟨fun y hy u hu => hc.1 y hy u (hsE.subset hu), hc.2⟩, fun x hx y hy => ?_⟩
              rcases List.mem_cons.1 hy with rfl | hy
              · exact fun u hu v hv => hpw.2.2 x hx _ (by simp) u hu v (hsE.subset hv)
              · exact hpw.2.2 x hx y (by simp [hy])
def pairI (ops : Array Oper) (bf : Array Nat) : List It → Bool
  | [] => true
  | x :: l => l.all (fun y => x.fl.all fun u => y.fl.all fun v => okPair ops bf u v) && pairI ops bf l
def depI (ops : Array Oper) : List (Nat × Kd) → Bool
  | [] => true
  | x :: l => !dirB ops x.1 x.1 && l.all (fun y => !dirB ops x.1 y.1) && depI ops l
theorem pairI_ok {bf : Array Nat} : ∀ (l : List It), pairI ops bf l = true → l.Pairwise fun x y => ∀ u ∈ x.fl, ∀ v ∈ y.fl, okPair ops bf u v = true
  | [], _ => .nil
  | x :: l, h => by
    simp only [pairI, Bool.and_eq_true, List.all_eq_true] at h
    exact List.pairwise_cons.2 ⟨fun y hy u hu v hv => h.1 y hy u hu v hv, pairI_ok l h.2⟩
theorem depI_ok : ∀ (l : List (Nat × Kd)), depI ops l = true → (l.Pairwise fun x y => dirB ops x.1 y.1 = false) ∧ ∀ x ∈ l, dirB ops x.1 x.1 = false
  | [], _ => ⟨.nil, fun _ h => (by cases h)⟩
  | x :: l, h => by
    simp only [depI, Bool.and_eq_true, List.all_eq_true, Bool.not_eq_true'] at h
    have ih := depI_ok l h.2
    refine ⟨List.pairwise_cons.2 ⟨fun y hy => h.1.2 y hy, ih.1⟩, fun y hy => ?_⟩
    rcases List.mem_cons.1 hy with rfl | hy
    · exact h.1.1
    · exact ih.2 y hy
def itemsOK (ops : Array Oper) (l : List It) : Bool :=
  pairI ops (Region.before ops) l && depI ops (fls l) && noSel ops && okBefore ops (Region.before ops) && (fls l).length == ops.size && nodupB ((fls l).map (·.1)) && ((fls l).map (·.1)).all (fun i => decide (i < ops.size)) && (List.range ops.size).all (fun i => ((fls l).map (·.1)).contains i) &&
  ops.all (fun o => o.after.all fun e => !Region.binds .any e || decide (e.on < ops.size))
/-- THE RULE: a region that leaves its order open, its groups walked in every order. -/
theorem wp_region_items {id : Nat} {a : Act} {w : World} (hm : P.follows .mixedOrders = true) (S : World → Prop) (l : List It) (hok : itemsOK ops l = true)
    (h : wpI P ops (NoPanic Q) S l (Q .normal) a w.drew) : (Code.region id ops true).wp P Q a w := by
  simp only [itemsOK, Bool.and_eq_true] at hok
  obtain ⟨⟨⟨⟨⟨⟨⟨⟨h1, h0⟩, h2⟩, h3⟩, h4⟩, h7⟩, h8⟩, h5⟩, h6⟩ := hok
  have hlen : (fls l).length = ops.size := by simpa using h4
  have hall : ∀ i, i < ops.size → i ∈ (fls l).map (·.1) := fun i hi => by
    simp only [List.all_eq_true, List.mem_range] at h5
    simpa using h5 i hi
  have hback : ∀ i, i ∈ (fls l).map (·.1) → i < ops.size := fun i hi => by
    rw [List.all_eq_true] at h8
    simpa using h8 i hi
  have hd := depI_ok _ h0
  refine wp_region_noPanic (wp_region_any hm ?_)
  refine any_of_I (S := S) ?_ ?_ h3 ?_ ops.size l _ hlen ?_ a w.drew h
  · intro j o cs b ho hsel
    simp only [noSel, Array.all_eq_true] at h2
    obtain ⟨hj, rfl⟩ := Array.getElem?_eq_some_iff.1 ho
    have := h2 j hj
    rw [hsel] at this
    cases this
  · intro c a d v w hh; exact hh
  · intro j o ho e he hb
    obtain ⟨hj, rfl⟩ := Array.getElem?_eq_some_iff.1 ho
    rw [Array.all_eq_true] at h6
    have := h6 j hj
    rw [Array.all_eq_true] at this
    obtain ⟨k, hk, rfl⟩ := Array.mem_iff_getElem.1 he
    have := this k hk
    simpa [hb] using this
  · refine ⟨by simp, fun i => ⟨fun hi => ?_, fun hi => hall i hi.1⟩, nodup_of_B _ h7, pairI_ok l h1, hd.1, hd.2, fun d r _ hd => ?_⟩
    · have := hback i hi
      exact ⟨this, by simp [Array.getD, this]⟩
    · exfalso
      simp only [Array.getD, Array.size_replicate] at hd
      split at hd <;> simp at hd
variable {i : Nat} {l : List It} {a : Act} {w : World} {o : Oper} {v : Value} {K : Act → World → Prop}
theorem I_p (ho : ops.toList[i]? = some o) (hg : Region.wanted o (yielded ops a.tmps) = true) (hv : ∀ w', (execOp a.eval o).run P w' = .ok (.value v) w') (h : wpI P ops Q S l K (a.put o.dst v) w) : wpI P ops Q S (.one i .p :: l) K a w :=
  have ho' := (Array.getElem?_toList (xs := ops) (i := i)).symm.trans ho
  ⟨o, ho', v, fun w' => .inl ⟨hg, hv w'⟩, h⟩
theorem I_s (ho : ops.toList[i]? = some o) (hg : Region.wanted o (yielded ops a.tmps) = true) (hS : S w) (hv : ∀ w', S w' → (execOp a.eval o).run P w' = .ok (.value v) w') (h : wpI P ops Q S l K (a.put o.dst v) w) : wpI P ops Q S (.one i .s :: l) K a w :=
  have ho' := (Array.getElem?_toList (xs := ops) (i := i)).symm.trans ho
  ⟨o, ho', hS, v, fun w' hw => .inl ⟨hg, hv w' hw⟩, h⟩
theorem I_t (ho : ops.toList[i]? = some o) (hg : Region.wanted o (yielded ops a.tmps) = true) (hv : (execOp a.eval o).run P w = .ok (.value v) w) (h : wpI P ops Q S l K (a.put o.dst v) w) : wpI P ops Q S (.one i .t :: l) K a w :=
  have ho' := (Array.getElem?_toList (xs := ops) (i := i)).symm.trans ho
  ⟨o, ho', v, .inl ⟨hg, hv⟩, h⟩
theorem I_po (ho : ops.toList[i]? = some o) (hg : Region.wanted o (yielded ops a.tmps) = false) (h : wpI P ops Q S l K (a.put o.dst undef) w) : wpI P ops Q S (.one i .p :: l) K a w :=
  have ho' := (Array.getElem?_toList (xs := ops) (i := i)).symm.trans ho
  ⟨o, ho', undef, fun w' => .inr ⟨hg, rfl⟩, h⟩
theorem I_so (ho : ops.toList[i]? = some o) (hg : Region.wanted o (yielded ops a.tmps) = false) (hS : S w) (h : wpI P ops Q S l K (a.put o.dst undef) w) : wpI P ops Q S (.one i .s :: l) K a w :=
  have ho' := (Array.getElem?_toList (xs := ops) (i := i)).symm.trans ho
  ⟨o, ho', hS, undef, fun _ _ => .inr ⟨hg, rfl⟩, h⟩
theorem I_to (ho : ops.toList[i]? = some o) (hg : Region.wanted o (yielded ops a.tmps) = false) (h : wpI P ops Q S l K (a.put o.dst undef) w) : wpI P ops Q S (.one i .t :: l) K a w :=
  have ho' := (Array.getElem?_toList (xs := ops) (i := i)).symm.trans ho
  ⟨o, ho', undef, .inr ⟨hg, rfl⟩, h⟩
theorem I_eo {b : Bool} (ho : ops.toList[i]? = some o) (hg : Region.wanted o (yielded ops a.tmps) = false) (hS : b = true → S w) (h : wpI P ops Q S l K (a.put o.dst undef) w) : wpI P ops Q S (.one i (.e b) :: l) K a w :=
  have ho' := (Array.getElem?_toList (xs := ops) (i := i)).symm.trans ho
  ⟨o, ho', by unfold wpOp; simp only [ho', hg, Bool.false_eq_true, if_false]; exact ⟨hS, h⟩⟩
theorem I_e {b : Bool} (ho : ops.toList[i]? = some o) (hg : Region.wanted o (yielded ops a.tmps) = true)
    (h : ∀ K' : Act → World → Prop, (∀ a w, (b = true → S w) → wpI P ops Q S l K a w → K' a w) → o.wp P a w K' Q) : wpI P ops Q S (.one i (.e b) :: l) K a w :=
  have ho' := (Array.getElem?_toList (xs := ops) (i := i)).symm.trans ho
  ⟨o, ho', by unfold wpOp; simp only [ho', hg, if_true]; exact .inl (h _ fun _ _ h1 h2 => ⟨h1, h2⟩)⟩
theorem I_nil (h : K a w) : wpI P ops Q S [] K a w := h
end
end PA
