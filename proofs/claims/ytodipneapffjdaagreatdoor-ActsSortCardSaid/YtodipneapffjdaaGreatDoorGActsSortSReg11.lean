/- Regions that leave effects unordered, where an operation behind an effect may need an effect that always comes before. Plain Lean, no program in sight. -/
import Derived.Test.YtodipneapffjdaaGreatDoorGActsSortSReg10
namespace PA
open Go Go.RowKit
def okGBW (ops : Array Oper) (bf : Array Nat) (b : Bool) (E : List (Nat × List Nat)) : Bool :=
  E.all (fun x => x.2.all (fun j => (bf.getD j 0).testBit x.1)) && E.all (fun x => okAll ops bf (x.2.map fun j => (j, (.inr none : Kd)))) &&
  E.all (fun x => E.all fun y => x == y || (bf.getD x.1 0).testBit y.1 || x.2.all fun u => (fl1 b y).all fun v => okPair ops bf (u, .inr none) v)
section
variable {P : Program} {ops : Array Oper} {Q : Exit → Act → World → Prop} {S : World → Prop}
structure okGW (ops : Array Oper) (bf : Array Nat) (b : Bool) (E : List (Nat × List Nat)) : Prop where
  own : ∀ x ∈ E, ∀ j ∈ x.2, (bf.getD j 0).testBit x.1 = true
  seq : ∀ x ∈ E, x.2.Pairwise fun u v => okPair ops bf (u, .inr none) (v, .inr none) = true
  other : ∀ x ∈ E, ∀ y ∈ E, x ≠ y → (bf.getD x.1 0).testBit y.1 = false → ∀ u ∈ x.2, ∀ v ∈ fl1 b y, okPair ops bf (u, .inr none) v = true
theorem okGB_okW {bf : Array Nat} {b : Bool} {E : List (Nat × List Nat)} (h : okGBW ops bf b E = true) : okGW ops bf b E := by
  simp only [okGBW, Bool.and_eq_true, List.all_eq_true, Bool.or_eq_true, beq_iff_eq] at h
  obtain ⟨⟨h1, h2⟩, h3⟩ := h
  refine ⟨h1, fun x hx => okAll_pw _ (h2 x hx), fun x hx y hy hne hnb u hu v hv => ?_⟩
  rcases h3 x hx y hy with (e | e) | h
  · exact absurd e hne
  · rw [hnb] at e; cases e
  · exact h u hu v hv
theorem okGW.erase {bf : Array Nat} {b : Bool} {E : List (Nat × List Nat)} (h : okGW ops bf b E) (x : Nat × List Nat) : okGW ops bf b (E.erase x) :=
  ⟨fun y hy => h.own y (List.mem_of_mem_erase hy), fun y hy => h.seq y (List.mem_of_mem_erase hy), fun y hy z hz => h.other y (List.mem_of_mem_erase hy) z (List.mem_of_mem_erase hz)⟩
structure InvJW (ops : Array Oper) (bf : Array Nat) (listed : Array Bool) (l : List ItG) : Prop where
  size : listed.size = ops.size
  mem : ∀ i, i ∈ (flsG l).map (·.1) ↔ i < ops.size ∧ listed.getD i true = false
  nodup : ((flsG l).map (·.1)).Nodup
  pair : l.Pairwise fun x y => ∀ u ∈ x.fl, ∀ v ∈ y.fl, okPair ops bf u v = true
  dep : (flsG l).Pairwise fun x y => dirB ops x.1 y.1 = false
  self : ∀ x ∈ flsG l, dirB ops x.1 x.1 = false
  grp : ∀ b E, ItG.grp b E ∈ l → okGW ops bf b E
  closed : ∀ d r, r < ops.size → listed.getD d false = true → (bf.getD d 0).testBit r = true → listed.getD r false = true
theorem any_of_JW (hsel : ∀ (j : Nat) (o : Oper) cs b, ops[j]? = some o → o.op ≠ .select cs b) (hQ : ∀ c a d v w, Q (.panic c) (a.put d v) w → Q (.panic c) a w)
    (hbf : okBefore ops (Region.before ops) = true) (hon : ∀ (j : Nat) (o : Oper), ops[j]? = some o → ∀ e ∈ o.after, Region.binds .any e = true → e.on < ops.size) :
    ∀ (n : Nat) (l : List ItG) (listed : Array Bool), (flsG l).length = n → InvJW ops (Region.before ops) listed l → ∀ (a : Act) (w : World), wpJ P ops Q S l (Q .normal) a w → wpAny P .any ops Q n listed a w := by
  obtain ⟨bf, hbe⟩ : ∃ bf, bf = Region.before ops := ⟨_, rfl⟩
  have getT : ∀ (listed : Array Bool) (i : Nat), listed.size = ops.size → i < ops.size → (listed.getD i false = true ↔ ¬ listed.getD i true = false) := fun listed i hs hi => by
    simp [Array.getD, hs, hi]
  have nil : ∀ (listed : Array Bool) (l : List ItG), flsG l = [] → InvJW ops (Region.before ops) listed l → Region.ready .any ops listed = [] := fun listed l hl hI => by
    simp only [Region.ready, List.filter_eq_nil_iff, List.mem_range]
    intro i hi
    have h' : ¬ listed.getD i true = false := fun hh => by have := (hI.mem i).2 ⟨hi, hh⟩; rw [hl] at this; simp at this
    have h'' : listed.getD i true = true := by simpa using h'
    simp [h'']
  intro n
  induction n with
  | zero =>
    intro l listed hn hI a w h
    have hl := List.eq_nil_of_length_eq_zero hn
    exact ⟨nil _ l hl hI, wpJ_empty l hl a w h⟩
  | succ n ih =>
    intro l listed hn hI a w h
    refine ⟨fun hr => ?_, fun j hj => ?_⟩
    · exfalso
      cases hfl : flsG l with
      | nil => rw [hfl] at hn; simp at hn
      | cons x xs =>
        have hx := (hI.mem x.1).1 (by rw [hfl]; simp)
        have hmem : x.1 ∈ Region.ready .any ops listed := by
          simp only [Region.ready, List.mem_filter, List.mem_range]
          refine ⟨hx.1, ?_⟩
          have : listed.getD x.1 true = false := hx.2
          have ho : ops[x.1]? = some ops[x.1] := Array.getElem?_eq_getElem hx.1
          simp only [this, Bool.not_false, Bool.true_and, ho, Option.map_some, Option.getD_some]
          rw [Array.all_eq_true]
          intro k hk
          have hmem := Array.getElem_mem hk
          by_cases hb : Region.binds .any (ops[x.1].after[k]) = true
          · have hlt := hon x.1 _ ho _ hmem hb
            have hdir : dirB ops x.1 (ops[x.1].after[k]).on = true := by
              simp only [dirB, ho, Array.any_eq_true]
              exact ⟨k, hk, by simp [hb]⟩
            have hnot : (ops[x.1].after[k]).on ∉ (flsG l).map (·.1) := by
              intro hm
              rw [hfl] at hm
              simp only [List.map_cons, List.mem_cons, List.mem_map] at hm
              rcases hm with hm | ⟨y, hy, hm⟩
              · have := hI.self x (by rw [hfl]; simp)
                rw [hm] at hdir
                rw [hdir] at this; cases this
              · have hd := hI.dep
                rw [hfl] at hd
                have := (List.pairwise_cons.1 hd).1 y hy
                rw [hm, hdir] at this
                cases this
            have h2 : ¬ listed.getD (ops[x.1].after[k]).on true = false := fun e => hnot ((hI.mem _).2 ⟨hlt, e⟩)
            have := (getT listed _ hI.size hlt).2 h2
            simp [this]
          · simp [hb]
        rw [hr] at hmem; cases hmem
    · simp only [Region.ready, List.mem_filter, List.mem_range, Bool.and_eq_true, Bool.not_eq_true'] at hj
      obtain ⟨hjs, hjl, hja⟩ := hj
      have hjm := (hI.mem j).2 ⟨hjs, hjl⟩
      cases hoj : ops[j]? with
      | none => simp [hoj] at hja
      | some oj =>
        simp only [hoj, Option.map_some, Option.getD_some] at hja
        have hdirl : ∀ d, dirB ops j d = true → listed.getD d false = true := fun d hd => by
          simp only [dirB, hoj, Array.any_eq_true] at hd
          obtain ⟨k, hk, hd⟩ := hd
          simp only [Bool.and_eq_true, beq_iff_eq] at hd
          rw [Array.all_eq_true] at hja
          have := hja k hk
          rw [hd.1] at this
          simpa [hd.2] using this
        have hbl : ∀ r, r < ops.size → ((Region.before ops).getD j 0).testBit r = true → listed.getD r false = true := fun r hr hb => by
          simp only [okBefore, List.all_eq_true, List.mem_range] at hbf
          have := hbf j hjs r hr
          simp only [hb, Bool.not_true, Bool.false_or, Bool.or_eq_true, List.any_eq_true, List.mem_range, Bool.and_eq_true] at this
          rcases this with h | ⟨d, _, h1, h2⟩
          · exact hdirl r h
          · exact hI.closed d r hr (hdirl d h1) h2
        have hnotin : ∀ x ∈ flsG l, ((Region.before ops).getD j 0).testBit x.1 = false := fun x hx => by
          have hxm := (hI.mem x.1).1 (List.mem_map.2 ⟨x, hx, rfl⟩)
          cases hb : ((Region.before ops).getD j 0).testBit x.1 with
          | false => rfl
          | true => exact absurd hxm.2 ((getT listed x.1 hI.size hxm.1).1 (hbl x.1 hxm.1 hb))
        have hclosed : ∀ d r, r < ops.size → (listed.setIfInBounds j true).getD d false = true → ((Region.before ops).getD d 0).testBit r = true → (listed.setIfInBounds j true).getD r false = true := by
          intro d r hr hd hb
          by_cases e : r = j
          · subst e; simp [Array.getD, hI.size, hr]
          · have hg : (listed.setIfInBounds j true).getD r false = listed.getD r false := getD_set_ne _ _ _ _ _ e
            rw [hg]
            by_cases e2 : d = j
            · subst e2; exact hbl r hr hb
            · have hg2 : (listed.setIfInBounds j true).getD d false = listed.getD d false := getD_set_ne _ _ _ _ _ e2
              rw [hg2] at hd
              exact hI.closed d r hr hd hb
        have hgetj : (listed.setIfInBounds j true).getD j true = true := by simp [Array.getD, hI.size, hjs]
        have hmemj : ∀ (F : List Nat), (∀ i, i ∈ F ↔ i ∈ (flsG l).map (·.1) ∧ i ≠ j) → ∀ i, i ∈ F ↔ i < ops.size ∧ (listed.setIfInBounds j true).getD i true = false := fun F hF i => by
          rw [hF, hI.mem]
          by_cases e : i = j
          · subst e; simp [hgetj]
          · have hg : (listed.setIfInBounds j true).getD i true = listed.getD i true := getD_set_ne _ _ _ _ _ e
            rw [hg]; simp [e]
        obtain ⟨⟨j', kj⟩, hxf, hje⟩ := List.mem_map.1 hjm
        obtain rfl : j' = j := hje
        obtain ⟨it, hit, hin⟩ := List.mem_flatMap.1 hxf
        obtain ⟨l1, l2, rfl⟩ := List.append_of_mem hit
        have hpw := List.pairwise_append.1 hI.pair
        have hfe : flsG (l1 ++ it :: l2) = flsG l1 ++ (it.fl ++ flsG l2) := by rw [flsG_append, flsG_cons]
        have hok : ∀ x ∈ flsG l1, okPair ops (Region.before ops) x (j', kj) = true ∧ ((Region.before ops).getD j' 0).testBit x.1 = false := fun x hx => by
          obtain ⟨y, hy, hxy⟩ := List.mem_flatMap.1 hx
          exact ⟨hpw.2.2 y hy it (by simp) x hxy (j', kj) hin, hnotin x (by rw [hfe]; exact List.mem_append_left _ hx)⟩
        have hnd := hI.nodup
        rw [hfe] at hnd
        rw [wpJ_append] at h
        cases it with
        | one i k =>
          simp only [ItG.fl, List.mem_singleton, Prod.mk.injEq] at hin
          obtain ⟨rfl, rfl⟩ := hin
          refine wpOp_mono (fun a' w' ⟨h1, _, _⟩ => ih (l1 ++ l2) (listed.setIfInBounds j' true) ?_ ?_ a' w' (by rw [wpJ_append]; exact h1)) (pullJ (kj := kj) hoj hsel hQ (wpJ P ops Q S (.one j' kj :: l2) (Q .normal)) (wpJ P ops Q S l2 (Q .normal)) ?_ l1 hok a w h)
          · rintro a w ⟨o, ho, h⟩
            rcases kj with b | _ | _ | _
            case inr.none => obtain ⟨v, hy, h⟩ := h; exact (hy w).wpOp ho ⟨h, fun h => (by cases h), fun _ => rfl⟩
            case inr.some.true => obtain ⟨hS, v, hy, h⟩ := h; exact (hy w hS).wpOp ho ⟨h, fun h => (by cases h), fun _ => rfl⟩
            case inr.some.false => obtain ⟨v, hy, h⟩ := h; exact hy.wpOp ho ⟨h, fun h => (by cases h), fun _ => rfl⟩
            case inl => exact wpOp_mono (fun a' w' ⟨h1, h2⟩ => ⟨h2, fun hb => h1 (by cases hb; rfl), fun hb => (by simp [Kd.eff] at hb)⟩) h
          · rw [hfe] at hn; rw [flsG_append]; simp [ItG.fl] at hn ⊢; omega
          · have hpf : List.Sublist (l1 ++ l2) (l1 ++ ItG.one j' kj :: l2) := List.Sublist.append_left (List.sublist_cons_self _ _) _
            have hsf : List.Sublist (flsG (l1 ++ l2)) (flsG (l1 ++ ItG.one j' kj :: l2)) := by
              rw [hfe, flsG_append]
              exact List.Sublist.append_left (List.sublist_append_right _ _) _
            refine ⟨by simp [hI.size], hmemj _ fun i => ?_, ?_, hI.pair.sublist hpf, hI.dep.sublist hsf, fun x hx => hI.self x (hsf.subset hx), fun b E hm => hI.grp b E (hpf.subset hm), hclosed⟩
            · rw [hfe, flsG_append]
              simp only [ItG.fl, List.map_append, List.map_cons, List.map_nil, List.mem_append, List.mem_cons, List.not_mem_nil, or_false]
              have hn2 := hI.nodup
              rw [hfe] at hn2
              simp only [ItG.fl, List.map_append, List.map_cons, List.map_nil, List.nodup_append, List.mem_append, List.mem_cons, List.not_mem_nil, or_false] at hn2
              constructor
              · rintro (hi | hi)
                · exact ⟨.inl hi, fun e => hn2.2.2 i hi j' (.inl rfl) e⟩
                · exact ⟨.inr (.inr hi), fun e => hn2.2.1.2.2 j' rfl i hi e.symm⟩
              · rintro ⟨hi | hi | hi, hne⟩
                · exact .inl hi
                · exact absurd hi hne
                · exact .inr hi
            · exact hI.nodup.sublist (hsf.map _)
        | grp b E =>
          obtain ⟨x, hxE, hinx⟩ := List.mem_flatMap.1 (show (j', kj) ∈ E.flatMap (fl1 b) from hin)
          have hG := hI.grp b E (by simp)
          have hxm : (x.1, (.inl b : Kd)) ∈ flsG (l1 ++ ItG.grp b E :: l2) := by
            rw [hfe]
            refine List.mem_append_right _ (List.mem_append_left _ ?_)
            exact List.mem_flatMap.2 ⟨x, hxE, List.mem_cons_self⟩
          have hj' : (j', kj) = (x.1, .inl b) := by
            rcases List.mem_cons.1 hinx with e | hm
            · exact e
            · exfalso
              obtain ⟨u, hu, e⟩ := List.mem_map.1 hm
              have e1 : u = j' := congrArg Prod.fst e
              have h1 := hG.own x hxE u hu
              have h2 := hnotin _ hxm
              rw [e1] at h1
              rw [h1] at h2
              cases h2
          obtain ⟨rfl, rfl⟩ : j' = x.1 ∧ kj = .inl b := Prod.mk.inj hj'
          obtain ⟨E1, E2, hnE1, hEe, hEr⟩ := List.exists_erase_eq hxE
          have hfl : flsG (l1 ++ ItG.grp b E :: l2) = flsG l1 ++ (E1.flatMap (fl1 b) ++ ((x.1, .inl b) :: ((x.2.map fun j => (j, (.inr none : Kd))) ++ E2.flatMap (fl1 b))) ++ flsG l2) := by
            rw [hfe]; show flsG l1 ++ (E.flatMap (fl1 b) ++ flsG l2) = _
            rw [hEe, List.flatMap_append, List.flatMap_cons]
            simp [fl1]
          have hfn : flsG (l1 ++ (x.2.map (fun j => ItG.one j (.inr none)) ++ ItG.grp b (E.erase x) :: l2)) = flsG l1 ++ ((x.2.map fun j => (j, (.inr none : Kd))) ++ (E1.flatMap (fl1 b) ++ E2.flatMap (fl1 b)) ++ flsG l2) := by
            rw [flsG_append, flsG_append, flsG_cons]
            show flsG l1 ++ (_ ++ ((E.erase x).flatMap (fl1 b) ++ flsG l2)) = _
            rw [hEr, List.flatMap_append]
            have : flsG (x.2.map fun j => ItG.one j (.inr none)) = x.2.map fun j => (j, (.inr none : Kd)) := by
              unfold flsG
              rw [List.flatMap_map]
              induction x.2 with
              | nil => rfl
              | cons u us ih => rw [List.flatMap_cons, ih]; rfl
            rw [this]
            simp
          have hperm : (flsG (l1 ++ ItG.grp b E :: l2)).Perm ((x.1, .inl b) :: flsG (l1 ++ (x.2.map (fun j => ItG.one j (.inr none)) ++ ItG.grp b (E.erase x) :: l2))) := by
            rw [hfl, hfn]
            refine List.Perm.trans ?_ List.perm_middle
            refine List.Perm.append_left _ ?_
            refine List.Perm.append_right (flsG l2) (show List.Perm _ ((x.1, (.inl b : Kd)) :: _) from List.Perm.trans List.perm_middle (List.Perm.cons _ ?_))
            rw [← List.append_assoc, ← List.append_assoc]
            exact List.Perm.append_right _ List.perm_append_comm
          have hnd' := (hperm.map (fun y : Nat × Kd => y.1)).nodup_iff.1 hI.nodup
          rw [List.map_cons] at hnd'
          obtain ⟨hxn, hnd2⟩ := List.nodup_cons.1 hnd'
          have hE1m : ∀ y ∈ E1, y ∈ E ∧ y ≠ x := fun y hy => ⟨by rw [hEe]; simp [hy], fun e => hnE1 (by rw [← e]; exact hy)⟩
          have hE2m : ∀ y ∈ E2, y ∈ E ∧ y ≠ x := fun y hy => by
            refine ⟨by rw [hEe]; simp [hy], fun e => ?_⟩
            have hn0 := hI.nodup
            rw [hfl] at hn0
            simp only [List.map_append, List.map_cons] at hn0
            have h3 := (List.nodup_append.1 (List.nodup_append.1 (List.nodup_append.1 hn0).2.1).1).2.1
            refine (List.nodup_cons.1 h3).1 (List.mem_append_right _ (List.mem_map.2 ⟨(x.1, .inl b), List.mem_flatMap.2 ⟨y, hy, by rw [e]; exact List.mem_cons_self⟩, rfl⟩))
          have hfr : ∀ y ∈ E, ((Region.before ops).getD x.1 0).testBit y.1 = false := fun y hy => hnotin (y.1, .inl b) (by rw [hfe]; refine List.mem_append_right _ (List.mem_append_left _ ?_); exact List.mem_flatMap.2 ⟨y, hy, List.mem_cons_self⟩)
          have hothers : ∀ u ∈ x.2, ∀ v ∈ E1.flatMap (fl1 b) ++ E2.flatMap (fl1 b), okPair ops (Region.before ops) (u, .inr none) v = true := fun u hu v hv => by
            rcases List.mem_append.1 hv with hv | hv
            · obtain ⟨y, hy, hvy⟩ := List.mem_flatMap.1 hv
              exact hG.other x hxE y (hE1m y hy).1 (fun e => (hE1m y hy).2 e.symm) (hfr y (hE1m y hy).1) u hu v hvy
            · obtain ⟨y, hy, hvy⟩ := List.mem_flatMap.1 hv
              exact hG.other x hxE y (hE2m y hy).1 (fun e => (hE2m y hy).2 e.symm) (hfr y (hE2m y hy).1) u hu v hvy
          have hdirp : ∀ {u v : Nat × Kd}, okPair ops (Region.before ops) u v = true → dirB ops u.1 v.1 = false := fun h => by
            simp only [okPair, Bool.and_eq_true, Bool.not_eq_true'] at h
            exact h.1
          refine wpOp_mono (fun a' w' ⟨h1, _, _⟩ => ih (l1 ++ (x.2.map (fun j => ItG.one j (.inr none)) ++ ItG.grp b (E.erase x) :: l2)) (listed.setIfInBounds x.1 true) ?_ ?_ a' w' (by rw [wpJ_append]; exact h1)) (pullJ (kj := .inl b) hoj hsel hQ (wpJ P ops Q S (.grp b E :: l2) (Q .normal)) (wpJ P ops Q S (x.2.map (fun j => ItG.one j (.inr none)) ++ ItG.grp b (E.erase x) :: l2) (Q .normal)) ?_ l1 hok a w h)
          · intro a w h
            have hready : (E.all fun r => !((Region.before ops).getD x.1 0).testBit r.1) = true := by
              rw [List.all_eq_true]
              intro r hr
              have h9 : ((Region.before ops).getD x.1 0).testBit r.1 = false := hnotin (r.1, .inl b) (by rw [hfe]; refine List.mem_append_right _ (List.mem_append_left _ ?_); exact List.mem_flatMap.2 ⟨r, hr, List.mem_cons_self⟩)
              rw [h9]; rfl
            have hlen : E.length = (E.erase x).length + 1 := by
              have hp : 0 < E.length := List.length_pos_of_mem hxE
              rw [List.length_erase_of_mem hxE]; omega
            simp only [wpJ] at h
            rw [hlen] at h
            refine wpOp_mono (fun a' w' ⟨h1, h2⟩ => ⟨wpT_J (.grp b (E.erase x) :: l2) (Q .normal) x.2 a' w' h2, fun hb => h1 (by cases hb; rfl), fun hb => (by simp [Kd.eff] at hb)⟩) (h x hxE hready)
          · have := hperm.length_eq
            rw [List.length_cons] at this
            omega
          · have hc := List.pairwise_cons.1 hpw.2.1
            have hl1 : ∀ y ∈ l1, ∀ u ∈ y.fl, ∀ v, v ∈ (x.2.map fun j => (j, (.inr none : Kd))) ∨ v ∈ E1.flatMap (fl1 b) ++ E2.flatMap (fl1 b) → okPair ops (Region.before ops) u v = true := fun y hy u hu v hv => by
              refine hpw.2.2 y hy (.grp b E) (by simp) u hu v ?_
              show v ∈ E.flatMap (fl1 b)
              rw [hEe, List.flatMap_append, List.flatMap_cons]
              rcases hv with hv | hv
              · exact List.mem_append_right _ (List.mem_append_left _ (List.mem_cons_of_mem _ hv))
              · rcases List.mem_append.1 hv with hv | hv
                · exact List.mem_append_left _ hv
                · exact List.mem_append_right _ (List.mem_append_right _ hv)
            have hl2 : ∀ y ∈ l2, ∀ v ∈ y.fl, ∀ u, u ∈ (x.2.map fun j => (j, (.inr none : Kd))) ∨ u ∈ E1.flatMap (fl1 b) ++ E2.flatMap (fl1 b) → okPair ops (Region.before ops) u v = true := fun y hy v hv u hu => by
              refine hc.1 y hy u ?_ v hv
              show u ∈ E.flatMap (fl1 b)
              rw [hEe, List.flatMap_append, List.flatMap_cons]
              rcases hu with hu | hu
              · exact List.mem_append_right _ (List.mem_append_left _ (List.mem_cons_of_mem _ hu))
              · rcases List.mem_append.1 hu with hu | hu
                · exact List.mem_append_left _ hu
                · exact List.mem_append_right _ (List.mem_append_right _ hu)
            have hgf : ItG.fl (.grp b (E.erase x)) = E1.flatMap (fl1 b) ++ E2.flatMap (fl1 b) := by
              show (E.erase x).flatMap (fl1 b) = _
              rw [hEr, List.flatMap_append]
            have hone : ∀ y ∈ x.2.map (fun j => ItG.one j (.inr none)), ∀ u ∈ y.fl, u ∈ (x.2.map fun j => (j, (.inr none : Kd))) := fun y hy u hu => by
              obtain ⟨j, hj, rfl⟩ := List.mem_map.1 hy
              rw [List.mem_singleton.1 hu]
              exact List.mem_map.2 ⟨j, hj, rfl⟩
            refine ⟨by simp [hI.size], hmemj _ fun k => ?_, hnd2, ?_, ?_, fun y hy => hI.self y (hperm.symm.subset (List.mem_cons_of_mem _ hy)), ?_, hclosed⟩
            · have hmm := (hperm.map (fun y : Nat × Kd => y.1)).mem_iff (a := k)
              rw [List.map_cons, List.mem_cons] at hmm
              rw [hmm]
              constructor
              · intro hk
                exact ⟨.inr hk, fun e => hxn (by rw [← e]; exact hk)⟩
              · rintro ⟨rfl | hk, hne⟩
                · exact absurd rfl hne
                · exact hk
            · refine List.pairwise_append.2 ⟨hpw.1, List.pairwise_append.2 ⟨?_, List.pairwise_cons.2 ⟨fun y hy u hu v hv => hl2 y hy v hv u (.inr (by rw [← hgf]; exact hu)), hc.2⟩, fun y hy z hz u hu v hv => ?_⟩, fun y hy z hz u hu v hv => ?_⟩
              · rw [List.pairwise_map]
                refine (hG.seq x hxE).imp fun h u hu v hv => ?_
                rw [List.mem_singleton.1 hu, List.mem_singleton.1 hv]
                exact h
              · have h1 := hone y hy u hu
                rcases List.mem_cons.1 hz with rfl | hz
                · obtain ⟨j, hj, rfl⟩ := List.mem_map.1 h1
                  exact hothers j hj v (by rw [← hgf]; exact hv)
                · exact hl2 z hz v hv u (.inl h1)
              · rcases List.mem_append.1 hz with hz | hz
                · exact hl1 y hy u hu v (.inl (hone z hz v hv))
                · rcases List.mem_cons.1 hz with rfl | hz
                  · exact hl1 y hy u hu v (.inr (by rw [← hgf]; exact hv))
                  · exact hpw.2.2 y hy z (by simp [hz]) u hu v hv
            · have hd := hI.dep
              rw [hfl] at hd
              rw [hfn]
              obtain ⟨a1, a2, a3⟩ := List.pairwise_append.1 hd
              obtain ⟨b1, b2, b3⟩ := List.pairwise_append.1 a2
              obtain ⟨c1, c2, c3⟩ := List.pairwise_append.1 b1
              obtain ⟨d1, d2⟩ := List.pairwise_cons.1 c2
              obtain ⟨e1, e2, e3⟩ := List.pairwise_append.1 d2
              refine List.pairwise_append.2 ⟨a1, List.pairwise_append.2 ⟨List.pairwise_append.2 ⟨e1, List.pairwise_append.2 ⟨c1, e2, fun y hy z hz => c3 y hy z (List.mem_cons_of_mem _ (List.mem_append_right _ hz))⟩, fun y hy z hz => ?_⟩, b2, fun y hy z hz => b3 y ?_ z hz⟩, fun y hy z hz => a3 y hy z ?_⟩
              · obtain ⟨j, hj, rfl⟩ := List.mem_map.1 hy
                exact hdirp (hothers j hj z hz)
              · rcases List.mem_append.1 hy with hy | hy
                · exact List.mem_append_right _ (List.mem_cons_of_mem _ (List.mem_append_left _ hy))
                · rcases List.mem_append.1 hy with hy | hy
                  · exact List.mem_append_left _ hy
                  · exact List.mem_append_right _ (List.mem_cons_of_mem _ (List.mem_append_right _ hy))
              · rcases List.mem_append.1 hz with hz | hz
                · rcases List.mem_append.1 hz with hz | hz
                  · exact List.mem_append_left _ (List.mem_append_right _ (List.mem_cons_of_mem _ (List.mem_append_left _ hz)))
                  · rcases List.mem_append.1 hz with hz | hz
                    · exact List.mem_append_left _ (List.mem_append_left _ hz)
                    · exact List.mem_append_left _ (List.mem_append_right _ (List.mem_cons_of_mem _ (List.mem_append_right _ hz)))
                · exact List.mem_append_right _ hz
            · intro b' E' hm
              rcases List.mem_append.1 hm with hm | hm
              · exact hI.grp b' E' (List.mem_append_left _ hm)
              · rcases List.mem_append.1 hm with hm | hm
                · obtain ⟨j, _, e⟩ := List.mem_map.1 hm
                  cases e
                · rcases List.mem_cons.1 hm with e | hm
                  · cases e
                    exact hG.erase x
                  · exact hI.grp b' E' (by simp [hm])
def grpsBW (ops : Array Oper) (bf : Array Nat) : List ItG → Bool
  | [] => true
  | .one _ _ :: l => grpsBW ops bf l
  | .grp b E :: l => okGBW ops bf b E && grpsBW ops bf l
theorem grpsB_okW {bf : Array Nat} : ∀ (l : List ItG), grpsBW ops bf l = true → ∀ b E, ItG.grp b E ∈ l → okGW ops bf b E
  | [], _, _, _, h => by cases h
  | .one _ _ :: l, h, b, E, hm => by
    rcases List.mem_cons.1 hm with e | hm
    · cases e
    · exact grpsB_okW l h b E hm
  | .grp b' E' :: l, h, b, E, hm => by
    simp only [grpsBW, Bool.and_eq_true] at h
    rcases List.mem_cons.1 hm with e | hm
    · cases e
      exact okGB_okW h.1
    · exact grpsB_okW l h.2 b E hm
def itemsJW (ops : Array Oper) (l : List ItG) : Bool :=
  pairJ ops (Region.before ops) l && depI ops (flsG l) && noSel ops && okBefore ops (Region.before ops) && (flsG l).length == ops.size && nodupB ((flsG l).map (·.1)) && ((flsG l).map (·.1)).all (fun i => decide (i < ops.size)) && (List.range ops.size).all (fun i => ((flsG l).map (·.1)).contains i) &&
  ops.all (fun o => o.after.all fun e => !Region.binds .any e || decide (e.on < ops.size)) && grpsBW ops (Region.before ops) l
/-- THE RULE: a region that leaves its order open, its groups walked in every order. -/
theorem wp_region_itemsJW {id : Nat} {a : Act} {w : World} (hm : P.follows .mixedOrders = true) (S : World → Prop) (l : List ItG) (hok : itemsJW ops l = true)
    (h : wpJ P ops (NoPanic Q) S l (Q .normal) a w.drew) : (Code.region id ops true).wp P Q a w := by
  simp only [itemsJW, Bool.and_eq_true] at hok
  obtain ⟨⟨⟨⟨⟨⟨⟨⟨⟨h1, h0⟩, h2⟩, h3⟩, h4⟩, h7⟩, h8⟩, h5⟩, h6⟩, h9⟩ := hok
  have hlen : (flsG l).length = ops.size := by simpa using h4
  have hall : ∀ i, i < ops.size → i ∈ (flsG l).map (·.1) := fun i hi => by
    simp only [List.all_eq_true, List.mem_range] at h5
    simpa using h5 i hi
  have hback : ∀ i, i ∈ (flsG l).map (·.1) → i < ops.size := fun i hi => by
    rw [List.all_eq_true] at h8
    simpa using h8 i hi
  have hd := depI_ok _ h0
  refine wp_region_noPanic (wp_region_any hm ?_)
  refine any_of_JW (S := S) ?_ ?_ h3 ?_ ops.size l _ hlen ?_ a w.drew h
  · intro j o cs b ho hsel
    simp only [noSel, Array.all_eq_true] at h2
    obtain ⟨hj, rfl⟩ := Array.getElem?_eq_some_iff.1 ho
    have := h2 j hj
    rw [hsel] at this
    cases this
  · intro c a d v w hh; exact hh
  · intro j o ho e he hb
    obtain ⟨hj, rfl⟩ := Array.getElem?_eq_some_iff.1 ho
    rw [Array.all_eq_true] at h6
    have := h6 j hj
    rw [Array.all_eq_true] at this
    obtain ⟨k, hk, rfl⟩ := Array.mem_iff_getElem.1 he
    have := this k hk
    simpa [hb] using this
  · refine ⟨by simp, fun i => ⟨fun hi => ?_, fun hi => hall i hi.1⟩, nodup_of_B _ h7, pairJ_ok l h1, hd.1, hd.2, grpsB_okW l h9, fun d r _ hd => ?_⟩
    · have := hback i hi
      exact ⟨this, by simp [Array.getD, this]⟩
    · exfalso
      simp only [Array.getD, Array.size_replicate] at hd
      split at hd <;> simp at hd
theorem goodG_two2 {W : World} {Pre Mid Post : Assn} {v1 v2 : Value} {us0 : List Value} {a0 : Act} {i j : Nat} {js : List Nat} {oi oj : Oper} {di dj : Option Tmp} (hdi : dstOf ops i = di) (hdj : dstOf ops j = dj) (hoi : ops[i]? = some oi) (hsi : ∀ cs b, oi.op ≠ .select cs b) (hoj : ops[j]? = some oj) (hsj : ∀ cs b, oj.op ≠ .select cs b)
    (hb : ((Region.before ops).getD j 0).testBit i = true) (h1 : DoesS P ops W oi a0 Pre (fun v => sep (fact (v = v1)) Mid)) (h2 : DoesS P ops W oj (a0.put di v1) Mid (fun v => sep (fact (v = v2)) Post))
    (hw2 : ∀ v, Region.wanted oj (yielded ops (a0.put di v).tmps) = true) (hpl : js.all (plainB ops) = true) (hF : purS P ops ((a0.put di v1).put dj v2) js us0) :
    goodG P ops W a0 (twoA Pre Mid Post v1 v2 us0) [] [(i, []), (j, js)] := by
  subst hdj
  exact goodG_two hdi hoi hsi hoj hsj hb h1 h2 hw2 hpl hF
theorem goodG_cl2 {W : World} {Pre Mid Post : Assn} {v1 u1 v2 : Value} {a0 : Act} {i k j : Nat} {oi oj : Oper} {di dk : Option Tmp} (hdi : dstOf ops i = di) (hdk : dstOf ops k = dk) (hoi : ops[i]? = some oi) (hsi : ∀ cs b, oi.op ≠ .select cs b) (hoj : ops[j]? = some oj) (hsj : ∀ cs b, oj.op ≠ .select cs b)
    (hb : ((Region.before ops).getD j 0).testBit i = true) (h1 : DoesS P ops W oi a0 Pre (fun v => sep (fact (v = v1)) Mid)) (hpl : plainB ops k = true) (hF : purS P ops (a0.put di v1) [k] [u1])
    (h2 : DoesS P ops W oj ((a0.put di v1).put dk u1) Mid (fun v => sep (fact (v = v2)) Post))
    (hw2 : ∀ v u, Region.wanted oj (yielded ops ((a0.put di v).put dk u).tmps) = true) :
    goodG P ops W a0 (clA Pre Mid Post v1 u1 v2) [] [(i, [k]), (j, [])] := by
  subst hdk
  exact goodG_cl hdi hoi hsi hoj hsj hb h1 hpl hF h2 hw2
theorem twoA_S {W : World} {Pre Mid Post : Assn} {v1 v2 : Value} {us0 : List Value} (h1 : ∀ w X, Sat W w (sep Pre X) → S w) (h2 : ∀ w X, Sat W w (sep Mid X) → S w) (h3 : ∀ w X, Sat W w (sep Post X) → S w) : ∀ us w X, Sat W w (sep (twoA Pre Mid Post v1 v2 us0 us) X) → S w
  | [], w, X, h => h1 w X h
  | [_], w, X, h => by
    rw [twoA, sep_assoc] at h
    exact h2 w X (Sat.fact.1 h).2
  | _ :: _ :: _, w, X, h => by
    rw [twoA, sep_assoc] at h
    exact h3 w X (Sat.fact.1 h).2
theorem clA_S {W : World} {Pre Mid Post : Assn} {v1 u1 v2 : Value} (h1 : ∀ w X, Sat W w (sep Pre X) → S w) (h2 : ∀ w X, Sat W w (sep Mid X) → S w) (h3 : ∀ w X, Sat W w (sep Post X) → S w) : ∀ us w X, Sat W w (sep (clA Pre Mid Post v1 u1 v2 us) X) → S w
  | [], w, X, h => h1 w X h
  | [_], w, X, h => by
    rw [clA, sep_assoc] at h
    exact h2 w X (Sat.fact.1 h).2
  | [_, _], w, X, h => by
    rw [clA, sep_assoc] at h
    exact h2 w X (Sat.fact.1 h).2
  | _ :: _ :: _ :: _, w, X, h => by
    rw [clA, sep_assoc] at h
    exact h3 w X (Sat.fact.1 h).2
end
end PA
