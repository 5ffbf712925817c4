/- The groups of Reg6, as threads beside each other: each an effect and the operations behind it that only compute. Plain Lean, no program in sight. -/
import Derived.Test.YtfapiopnjllnnaaGreatDoorReg6
namespace PA
open Go Go.RowKit
section
variable {P : Program} {ops : Array Oper} {Q : Exit → Act → World → Prop} {S : World → Prop} {W : World}
def tailA {Y : Type} (Pre : Assn) (ok : Y → Value → Prop) (Post : Y → Assn) (F : Value → List Value) : List Value → Assn
  | [] => Pre
  | v :: us => ex fun y : Y => sep (fact (ok y v ∧ us = (F v).take us.length)) (Post y)
/-- The operations js compute us, one behind the other, in every world. -/
def purS (P : Program) (ops : Array Oper) : Act → List Nat → List Value → Prop
  | _, [], [] => True
  | a, j :: js, u :: us => (∃ o, ops[j]? = some o ∧ (∀ w, (execOp a.eval o).run P w = .ok (.value u) w)) ∧ purS P ops (a.put (dstOf ops j) u) js us
  | _, _, _ => False
def plainB (ops : Array Oper) (j : Nat) : Bool := match ops[j]? with | some o => o.guard.isNone && (match o.op with | .select .. => false | _ => true) | none => false

theorem purS_len : ∀ {js : List Nat} {us : List Value} {a : Act}, purS P ops a js us → us.length = js.length
  | [], [], _, _ => rfl
  | [], _ :: _, _, h => h.elim
  | _ :: _, [], _, h => h.elim
  | j :: js, u :: us, a, h => by rw [List.length_cons, List.length_cons, purS_len h.2]
theorem wpT_of_purS {K : Act → World → Prop} : ∀ (js : List Nat) (us : List Value) (a : Act) (w : World), (∀ j ∈ js, plainB ops j = true) → purS P ops a js us → K (puts ops (js.zip us) a) w → wpT P ops K js a w
  | [], us, a, w, _, h, hk => by
    cases us with
    | nil => exact hk
    | cons => exact h.elim
  | j :: js, [], _, _, _, h, _ => h.elim
  | j :: js, u :: us, a, w, hp, h, hk => by
    obtain ⟨⟨o, ho, hr⟩, h2⟩ := h
    have hpj := hp j (by simp)
    unfold plainB at hpj
    rw [ho] at hpj
    simp only [Bool.and_eq_true] at hpj
    refine ⟨o, ho, u, fun w' => .inl ⟨?_, hr w'⟩, ?_⟩
    · unfold Region.wanted
      cases hg : o.guard with
      | none => rfl
      | some x => rw [hg] at hpj; exact absurd hpj.1 (by simp)
    · have hd : dstOf ops j = o.dst := by unfold dstOf; rw [ho]; rfl
      rw [← hd]
      exact wpT_of_purS js us _ w (fun k hk => hp k (by simp [hk])) h2 hk
theorem puts_swap' {i : Nat} (v : Value) : ∀ (l : List (Nat × Value)), (∀ x ∈ l, apartB ops x.1 i = true ∨ apartB ops i x.1 = true) → ∀ a : Act, puts ops l (a.put (dstOf ops i) v) = (puts ops l a).put (dstOf ops i) v
  | [], _, _ => rfl
  | x :: l, h, a => by
    show puts ops l ((a.put (dstOf ops i) v).put (dstOf ops x.1) x.2) = (puts ops l (a.put (dstOf ops x.1) x.2)).put (dstOf ops i) v
    have hd : ∀ d, dstOf ops i = some d → dstOf ops x.1 ≠ some d := by
      rcases h x (by simp) with h1 | h1
      · exact (apartB_dst h1).2
      · exact (apartB_dst h1).1
    rw [Act.put_comm a v x.2 hd, puts_swap' v l (fun y hy => h y (by simp [hy]))]
theorem purS_put {js : List Nat} {k : Nat} {v : Value} : ∀ {us : List Value} {a : Act}, (∀ j ∈ js, plainB ops j = true) → (∀ j ∈ js, apartB ops k j = true ∨ apartB ops j k = true) → purS P ops a js us → purS P ops (a.put (dstOf ops k) v) js us := by
  induction js with
  | nil => intro us a _ _ h; cases us with
    | nil => trivial
    | cons => exact h.elim
  | cons j js ih =>
    intro us a hp hap h
    cases us with
    | nil => exact h.elim
    | cons u us =>
      obtain ⟨⟨o, ho, hr⟩, h2⟩ := h
      have hpj := hp j (by simp)
      unfold plainB at hpj
      rw [ho] at hpj
      simp only [Bool.and_eq_true] at hpj
      have hsel : ∀ cs b, o.op ≠ .select cs b := fun cs b hs => by rw [hs] at hpj; exact absurd hpj.2 (by simp)
      have hlook : ∀ d, dstOf ops k = some d → d ∉ o.looksAt ops := fun d hd => by
        unfold dstOf at hd
        cases hk : ops[k]? with
        | none => rw [hk] at hd; cases hd
        | some z =>
          rw [hk] at hd
          rcases hap j (by simp) with h1 | h1
          · unfold apartB at h1
            rw [hk, ho] at h1
            exact (Oper.apart_spec h1).1 d hd
          · unfold apartB at h1
            rw [hk, ho] at h1
            exact (Oper.apart_spec h1).2.2 d hd
      refine ⟨⟨o, ho, fun w => ?_⟩, ?_⟩
      · rw [execOp_put o hsel a _ v hlook]; exact hr w
      · have := ih (fun i hi => hp i (by simp [hi])) (fun i hi => hap i (by simp [hi])) h2
        have hd : ∀ d, dstOf ops k = some d → dstOf ops j ≠ some d := by
          rcases hap j (by simp) with h1 | h1
          · exact (apartB_dst h1).1
          · exact (apartB_dst h1).2
        rw [Act.put_comm a v u hd]
        exact this
theorem purS_puts {js : List Nat} {us : List Value} : ∀ (l : List (Nat × Value)), (∀ j ∈ js, plainB ops j = true) → (∀ x ∈ l, ∀ j ∈ js, apartB ops x.1 j = true ∨ apartB ops j x.1 = true) → ∀ {a : Act}, purS P ops a js us → purS P ops (puts ops l a) js us
  | [], _, _, _, h => h
  | x :: l, hp, hap, a, h => purS_puts l hp (fun y hy => hap y (by simp [hy])) (purS_put hp (hap x (by simp)) h)
def nums (ids : List (Nat × List Nat)) : List Nat := ids.flatMap fun x => x.1 :: x.2
structure ThG where
  ids : List (Nat × List Nat)
  A : List Value → Assn
structure StG where
  dn : List (Nat × Value)
  td : List (Nat × List Nat)
  A : List Value → Assn
def StG.now (s : StG) : Assn := s.A (s.dn.map (·.2))
def stG (sts : List StG) (B : Assn) : Assn := sts.foldl (fun B s => sep s.now B) B
theorem stG_cons (s : StG) (sts : List StG) (B : Assn) : stG (s :: sts) B = stG sts (sep s.now B) := rfl
theorem stG_append (s t : List StG) (B : Assn) : stG (s ++ t) B = stG t (stG s B) := by simp [stG]
theorem stG_out (X : Assn) : ∀ (sts : List StG) (B : Assn), stG sts (sep X B) = sep X (stG sts B)
  | [], _ => rfl
  | s :: sts, B => by rw [stG_cons, stG_cons, sep_lcomm, stG_out X sts]
theorem stG_front : ∀ (l : List StG) (A : Assn), ∃ X, stG l A = sep X A
  | [], A => ⟨emp, (emp_sep A).symm⟩
  | s :: l, A => by
    obtain ⟨X, hX⟩ := stG_front l A
    exact ⟨sep s.now X, by rw [stG_cons, stG_out, hX, sep_assoc]⟩
/-- The steps of a thread, one behind the other. -/
def goodG (P : Program) (ops : Array Oper) (W : World) (a0 : Act) (A : List Value → Assn) : List (Nat × Value) → List (Nat × List Nat) → Prop
  | _, [] => True
  | dn, x :: td => (∃ o, ops[x.1]? = some o ∧ (∀ cs b, o.op ≠ .select cs b) ∧ DoesS P ops W o (puts ops dn a0) (A (dn.map (·.2))) (fun v => A (dn.map (·.2) ++ [v]))) ∧ (∀ y ∈ td, ((Region.before ops).getD y.1 0).testBit x.1 = true) ∧ (∀ j ∈ x.2, plainB ops j = true) ∧
      (∀ v w B, Sat W w (sep (A (dn.map (·.2) ++ [v])) B) → ∃ us, purS P ops (puts ops (dn ++ [(x.1, v)]) a0) x.2 us ∧ Sat W w (sep (A (dn.map (·.2) ++ v :: us)) B)) ∧
      ∀ v us, us.length = x.2.length → goodG P ops W a0 A (dn ++ (x.1, v) :: x.2.zip us) td
/-- What is to be shown behind all threads. -/
def finG (ops : Array Oper) (W : World) (a0 : Act) (K : Act → World → Prop) : List ThG → List (Nat × Value) → Assn → Prop
  | [], D, B => ∀ w, Sat W w B → K (puts ops D a0) w
  | t :: ts, D, B => ∀ dn : List (Nat × Value), dn.map (·.1) = nums t.ids → finG ops W a0 K ts (D ++ dn) (sep (t.A (dn.map (·.2))) B)
def LikeG (ts : List ThG) (sts : List StG) : Prop := sts.map (fun s => (s.dn.map (·.1) ++ nums s.td, s.A)) = ts.map fun t => (nums t.ids, t.A)
theorem nums_nil {l : List (Nat × List Nat)} (h : l = []) : nums l = [] := by rw [h]; rfl
theorem finG_end {a0 : Act} {K : Act → World → Prop} : ∀ (sts : List StG) (ts : List ThG) (D : List (Nat × Value)) (B : Assn), LikeG ts sts → sts.flatMap (·.td) = [] → finG ops W a0 K ts D B → ∀ w, Sat W w (stG sts B) → K (puts ops (D ++ sts.flatMap (·.dn)) a0) w
  | [], ts, D, B, hL, _, hf, w, hS => by
    have : ts = [] := by unfold LikeG at hL; simp at hL; exact hL
    subst this
    simpa using hf w hS
  | s :: sts, ts, D, B, hL, ht, hf, w, hS => by
    cases ts with
    | nil => unfold LikeG at hL; simp at hL
    | cons t ts =>
      unfold LikeG at hL
      simp only [List.map_cons, List.cons.injEq, Prod.mk.injEq] at hL
      obtain ⟨⟨h1, h2⟩, h3⟩ := hL
      simp only [List.flatMap_cons, List.append_eq_nil_iff] at ht
      rw [nums_nil ht.1, List.append_nil] at h1
      have := hf s.dn h1
      rw [← h2] at this
      have h4 := finG_end sts ts (D ++ s.dn) _ h3 ht.2 this w (by rw [stG_cons] at hS; exact hS)
      rw [List.flatMap_cons, ← List.append_assoc]
      exact h4
def StG.all (s : StG) : List Nat := s.dn.map (·.1) ++ nums s.td
theorem wpGrpG_go {a0 : Act} {A : Assn} {b : Bool} {K : Act → World → Prop} (ts : List ThG) (hS : b = true → ∀ w X, Sat W w (sep X A) → S w) (hfin : finG ops W a0 K ts [] A) :
    ∀ (n : Nat) (sts : List StG) (E : List (Nat × List Nat)) (w : World), E.length = n → E.Perm (sts.flatMap (·.td)) → LikeG ts sts → (∀ s ∈ sts, goodG P ops W a0 s.A s.dn s.td) → (sts.Pairwise fun s t => apartT ops s.all t.all) → Sat W w (stG sts A) →
      wpGrpG P ops Q S b n E K (puts ops (sts.flatMap (·.dn)) a0) w := by
  intro n
  induction n with
  | zero =>
    intro sts E w hn hp hL _ _ hw
    have hE := List.eq_nil_of_length_eq_zero hn
    subst hE
    have := finG_end sts ts [] A hL (List.nil_perm.1 hp) hfin w hw
    rw [List.nil_append] at this
    exact this
  | succ n ih =>
    intro sts E w hn hp hL hg hap hw i hi hr
    obtain ⟨s, hs, his⟩ := List.mem_flatMap.1 (hp.mem_iff.1 hi)
    obtain ⟨S1, S2, rfl⟩ := List.append_of_mem hs
    obtain ⟨dn, td, AT⟩ := s
    cases td with
    | nil => simp at his
    | cons k td =>
      have hgs := hg _ hs
      obtain ⟨⟨o, ho, hsel, hd⟩, hch, hplain, htl, hnext⟩ := hgs
      have hik : i = k := by
        rcases List.mem_cons.1 his with e | hm
        · exact e
        · exfalso
          have h1 := hch i hm
          have h2 : k ∈ E := hp.mem_iff.2 (List.mem_flatMap.2 ⟨_, hs, by simp⟩)
          have h3 := List.all_eq_true.1 hr k h2
          rw [h1] at h3
          cases h3
      subst hik
      have hall : ∀ j ∈ dn.map (·.1) ++ i.1 :: i.2, j ∈ StG.all ⟨dn, i :: td, AT⟩ := fun j hj => by
        unfold StG.all nums
        rw [List.flatMap_cons]
        rcases List.mem_append.1 hj with hj | hj
        · exact List.mem_append_left _ hj
        · exact List.mem_append_right _ (List.mem_append_left _ hj)
      have hpw := List.pairwise_append.1 hap
      have hpc := List.pairwise_cons.1 hpw.2.1
      have hl1 : ∀ x ∈ S1.flatMap (·.dn), ∀ j ∈ dn.map (·.1) ++ i.1 :: i.2, apartB ops x.1 j = true := fun x hx j hj => by
        obtain ⟨s1, hs1, hx1⟩ := List.mem_flatMap.1 hx
        exact hpw.2.2 s1 hs1 ⟨dn, i :: td, AT⟩ (by simp) x.1 (List.mem_append_left _ (List.mem_map.2 ⟨x, hx1, rfl⟩)) j (hall j hj)
      have hl2 : ∀ x ∈ S2.flatMap (·.dn), ∀ j ∈ dn.map (·.1) ++ i.1 :: i.2, apartB ops j x.1 = true := fun x hx j hj => by
        obtain ⟨s1, hs1, hx1⟩ := List.mem_flatMap.1 hx
        exact hpc.1 s1 hs1 j (hall j hj) x.1 (List.mem_append_left _ (List.mem_map.2 ⟨x, hx1, rfl⟩))
      have hacts : ∀ dn' : List (Nat × Value), (∀ y ∈ dn', y.1 ∈ dn.map (·.1) ++ i.1 :: i.2) → puts ops ((S1 ++ ⟨dn', td, AT⟩ :: S2).flatMap (·.dn)) a0 = puts ops (S2.flatMap (·.dn)) (puts ops (S1.flatMap (·.dn)) (puts ops dn' a0)) := fun dn' hdn' => by
        rw [List.flatMap_append, List.flatMap_cons, puts_append, puts_append]
        congr 1
        exact puts_swaps dn' _ (fun x hx y hy => hl1 x hx y.1 (hdn' y hy)) a0
      have hact0 : puts ops ((S1 ++ ⟨dn, i :: td, AT⟩ :: S2).flatMap (·.dn)) a0 = puts ops (S2.flatMap (·.dn)) (puts ops (S1.flatMap (·.dn)) (puts ops dn a0)) := by
        rw [← hacts dn (fun y hy => List.mem_append_left _ (List.mem_map.2 ⟨y, hy, rfl⟩)), List.flatMap_append, List.flatMap_append, List.flatMap_cons, List.flatMap_cons]
      have hboth : ∀ x ∈ S1.flatMap (·.dn) ++ S2.flatMap (·.dn), ∀ j ∈ dn.map (·.1) ++ i.1 :: i.2, apartB ops x.1 j = true ∨ apartB ops j x.1 = true := fun x hx j hj => by
        rcases List.mem_append.1 hx with hx | hx
        · exact .inl (hl1 x hx j hj)
        · exact .inr (hl2 x hx j hj)
      have hd' : DoesS P ops W o (puts ops ((S1 ++ ⟨dn, i :: td, AT⟩ :: S2).flatMap (·.dn)) a0) (AT (dn.map (·.2))) (fun v => AT (dn.map (·.2) ++ [v])) := by
        rw [hact0, ← puts_append]
        exact DoesS.puts ho hsel _ (fun x hx => hboth x hx i.1 (by simp)) hd
      have hw2 : Sat W w (sep (AT (dn.map (·.2))) (stG S2 (stG S1 A))) := by
        rw [stG_append, stG_cons, stG_out] at hw
        exact hw
      refine hd'.wpOp ho hw2 (fun v w' hv => ?_)
      refine ⟨fun hb => ?_, ?_⟩
      · obtain ⟨X, hX⟩ := stG_front (S1 ++ S2) A
        rw [← stG_append, hX, ← sep_assoc] at hv
        exact hS hb w' _ hv
      · obtain ⟨us, hpu, hv2⟩ := htl v w' _ hv
        have hul := purS_len hpu
        have hdo : dstOf ops i.1 = o.dst := by unfold dstOf; rw [ho]; rfl
        have e1 : (puts ops ((S1 ++ ⟨dn, i :: td, AT⟩ :: S2).flatMap (·.dn)) a0).put o.dst v = puts ops (S1.flatMap (·.dn) ++ S2.flatMap (·.dn)) (puts ops (dn ++ [(i.1, v)]) a0) := by
          rw [hact0, ← hdo, ← puts_append, puts_append dn]
          show _ = puts ops _ ((puts ops dn a0).put (dstOf ops i.1) v)
          exact (puts_swap' v _ (fun x hx => hboth x hx i.1 (by simp)) _).symm
        rw [e1]
        refine wpT_of_purS i.2 us _ w' hplain (purS_puts _ hplain (fun x hx j hj => hboth x hx j (by simp [hj])) hpu) ?_
        have e2 : puts ops (i.2.zip us) (puts ops (S1.flatMap (·.dn) ++ S2.flatMap (·.dn)) (puts ops (dn ++ [(i.1, v)]) a0)) = puts ops ((S1 ++ ⟨dn ++ (i.1, v) :: i.2.zip us, td, AT⟩ :: S2).flatMap (·.dn)) a0 := by
          rw [hacts (dn ++ (i.1, v) :: i.2.zip us) (fun y hy => ?_)]
          · rw [← puts_append (S1.flatMap (·.dn))]
            have e3 : dn ++ (i.1, v) :: i.2.zip us = (dn ++ [(i.1, v)]) ++ i.2.zip us := by simp
            rw [e3, puts_append (dn ++ [(i.1, v)])]
            have key : ∀ (z : List (Nat × Value)), (∀ y ∈ z, y.1 ∈ i.2) → ∀ (L : List (Nat × Value)), (∀ x ∈ L, ∀ j ∈ dn.map (·.1) ++ i.1 :: i.2, apartB ops x.1 j = true ∨ apartB ops j x.1 = true) → ∀ a : Act, puts ops z (puts ops L a) = puts ops L (puts ops z a) := by
              intro z
              induction z with
              | nil => intro _ L _ a; rfl
              | cons y z ihz =>
                intro hz L hL a
                show puts ops z ((puts ops L a).put (dstOf ops y.1) y.2) = puts ops L (puts ops z (a.put (dstOf ops y.1) y.2))
                rw [← puts_swap' y.2 L (fun x hx => hL x hx y.1 (List.mem_append_right _ (List.mem_cons_of_mem _ (hz y (by simp))))), ihz (fun u hu => hz u (by simp [hu])) L hL]
            exact key _ (fun y hy => by obtain ⟨y1, y2⟩ := y; exact (List.of_mem_zip hy).1) _ hboth _
          · rcases List.mem_append.1 hy with hy | hy
            · exact List.mem_append_left _ (List.mem_map.2 ⟨y, hy, rfl⟩)
            · rcases List.mem_cons.1 hy with rfl | hy
              · simp
              · obtain ⟨y1, y2⟩ := y
                exact List.mem_append_right _ (List.mem_cons_of_mem _ (List.of_mem_zip hy).1)
        rw [e2]
        have hzm : ((i.1, v) :: i.2.zip us).map (·.1) = i.1 :: i.2 := by rw [List.map_cons, List.map_fst_zip (by omega)]
        have hzs : ((i.1, v) :: i.2.zip us).map (·.2) = v :: us := by rw [List.map_cons, List.map_snd_zip (by omega)]
        refine ih _ (E.erase i) w' ?_ ?_ ?_ ?_ ?_ ?_
        · rw [List.length_erase_of_mem hi, hn]; rfl
        · have h1 : ((S1 ++ ⟨dn, i :: td, AT⟩ :: S2).flatMap (·.td)).Perm (i :: (S1 ++ ⟨dn ++ (i.1, v) :: i.2.zip us, td, AT⟩ :: S2).flatMap (·.td)) := by
            simp only [List.flatMap_append, List.flatMap_cons]
            exact List.perm_middle
          have h2 := (hp.trans h1).erase i
          rw [List.erase_cons_head] at h2
          exact h2
        · unfold LikeG at *
          rw [← hL]
          simp only [List.map_append, List.map_cons]
          rw [show i.1 :: (i.2.zip us).map (·.1) = i.1 :: i.2 by rw [← hzm]; rfl]
          congr 2
          simp [nums]
        · intro s hs'
          rcases List.mem_append.1 hs' with h | h
          · exact hg s (List.mem_append_left _ h)
          · rcases List.mem_cons.1 h with rfl | h
            · exact hnext v us hul
            · exact hg s (by simp [h])
        · have hsame : StG.all ⟨dn ++ (i.1, v) :: i.2.zip us, td, AT⟩ = StG.all ⟨dn, i :: td, AT⟩ := by
            unfold StG.all nums
            rw [List.map_append, hzm, List.flatMap_cons, List.append_assoc]
          refine List.pairwise_append.2 ⟨hpw.1, List.pairwise_cons.2 ⟨fun y hy => ?_, hpc.2⟩, fun x hx y hy => ?_⟩
          · rw [hsame]; exact hpc.1 y hy
          · rcases List.mem_cons.1 hy with rfl | hy
            · rw [hsame]; exact hpw.2.2 x hx _ (List.mem_cons_self)
            · exact hpw.2.2 x hx y (by simp [hy])
        · rw [stG_append, stG_cons, stG_out]
          show Sat W w' (sep (AT ((dn ++ (i.1, v) :: i.2.zip us).map (·.2))) (stG S2 (stG S1 A)))
          rw [List.map_append, hzs]
          exact hv2
theorem pairsTG_ok : ∀ (ts : List ThG), pairsTB ops (ts.map (fun t => nums t.ids)) = true → (ts.map fun t => (⟨[], t.ids, t.A⟩ : StG)).Pairwise fun s t => apartT ops s.all t.all
  | [], _ => .nil
  | t :: ts, h => by
    simp only [List.map_cons, pairsTB, Bool.and_eq_true, List.all_eq_true] at h
    refine List.pairwise_cons.2 ⟨fun s hs => ?_, pairsTG_ok ts h.2⟩
    obtain ⟨u, hu, rfl⟩ := List.mem_map.1 hs
    have := h.1 (nums u.ids) (List.mem_map.2 ⟨u, hu, rfl⟩)
    simp only [apartTB, List.all_eq_true] at this
    intro i hi j hj
    exact this i (by simpa [StG.all] using hi) j (by simpa [StG.all] using hj)
/-- A group of effects, as threads beside each other. -/
theorem wpJ_threads {a : Act} {w : World} {A : Assn} {b : Bool} {l : List ItG} {K : Act → World → Prop} (ts : List ThG) (hS : b = true → ∀ w X, Sat W w (sep X A) → S w)
    (hap : pairsTB ops (ts.map (fun t => nums t.ids)) = true) (hg : ∀ t ∈ ts, goodG P ops W a t.A [] t.ids) (hw : Sat W w (ts.foldl (fun B t => sep (t.A []) B) A)) (hfin : finG ops W a (wpJ P ops Q S l K) ts [] A) :
    wpJ P ops Q S (.grp b (ts.flatMap (·.ids)) :: l) K a w := by
  have hsts : stG (ts.map fun t => (⟨[], t.ids, t.A⟩ : StG)) A = ts.foldl (fun B t => sep (t.A []) B) A := by
    rw [stG, List.foldl_map]; rfl
  have h := wpGrpG_go (P := P) (Q := Q) (S := S) (b := b) ts hS hfin _ (ts.map fun t => (⟨[], t.ids, t.A⟩ : StG)) (ts.flatMap (·.ids)) w rfl ?_ ?_ ?_ (pairsTG_ok ts hap) (by rw [hsts]; exact hw)
  · have e : (ts.map fun t => (⟨[], t.ids, t.A⟩ : StG)).flatMap (·.dn) = [] := by
      induction ts with
      | nil => rfl
      | cons t ts ih => simp
    rw [e] at h
    exact h
  · rw [List.flatMap_map]
  · unfold LikeG; simp
  · intro s hs
    obtain ⟨t, ht, rfl⟩ := List.mem_map.1 hs
    exact hg t ht
/-- The thread of one effect i and of the operations js behind it. -/
theorem goodG_tail {Y : Type} {Pre : Assn} {ok : Y → Value → Prop} {Post : Y → Assn} {F : Value → List Value} {a0 : Act} {i : Nat} {js : List Nat} {o : Oper} (ho : ops[i]? = some o) (hs : ∀ cs b, o.op ≠ .select cs b)
    (hd : DoesS P ops W o a0 Pre (fun v => ex fun y : Y => sep (fact (ok y v)) (Post y))) (hpl : js.all (plainB ops) = true) (hF : ∀ y v, ok y v → purS P ops (a0.put (dstOf ops i) v) js (F v)) :
    goodG P ops W a0 (tailA Pre ok Post F) [] [(i, js)] := by
  refine ⟨⟨o, ho, hs, ?_⟩, fun y hy => (by cases hy), fun j hj => List.all_eq_true.1 hpl j hj, fun v w B h => ?_, fun _ _ _ => trivial⟩
  · refine ⟨hd.1, fun w A hS => ?_⟩
    have conv : ∀ (v : Value) (w' : World), Sat W w' (sep (ex fun y : Y => sep (fact (ok y v)) (Post y)) A) → Sat W w' (sep (tailA Pre ok Post F ([] ++ [v])) A) := fun v w' h => by
      rw [List.nil_append, tailA, ex_sep, Sat.ex]
      rw [ex_sep, Sat.ex] at h
      obtain ⟨y, h⟩ := h
      refine ⟨y, ?_⟩
      rw [sep_assoc] at h ⊢
      obtain ⟨h1, h2⟩ := Sat.fact.1 h
      exact Sat.fact.2 ⟨⟨h1, rfl⟩, h2⟩
    rcases hd.2 w A hS with ⟨v, w', h1, h2⟩ | ⟨f, args, w1, h1, h2⟩
    · exact .inl ⟨v, w', h1, conv v w' h2⟩
    · refine .inr ⟨f, args, w1, h1, h2.mono ?_⟩
      rintro e w' ⟨v, rfl, h3⟩
      exact ⟨v, rfl, conv v w' h3⟩
  · have h' : Sat W w (sep (tailA Pre ok Post F [v]) B) := h
    rw [tailA, ex_sep, Sat.ex] at h'
    obtain ⟨y, h'⟩ := h'
    rw [sep_assoc] at h'
    obtain ⟨⟨hok, -⟩, h2⟩ := Sat.fact.1 h'
    have hp := hF y v hok
    refine ⟨F v, hp, ?_⟩
    show Sat W w (sep (tailA Pre ok Post F (v :: F v)) B)
    rw [tailA, ex_sep, Sat.ex]
    refine ⟨y, ?_⟩
    rw [sep_assoc]
    exact Sat.fact.2 ⟨⟨hok, by rw [List.take_length]⟩, h2⟩
/-- What a finished thread holds. -/
theorem tailA_done {Y : Type} {Pre : Assn} {ok : Y → Value → Prop} {Post : Y → Assn} {F : Value → List Value} {A : Assn} {w : World} {i : Nat} {js : List Nat} {dn : List (Nat × Value)} (hdn : dn.map (·.1) = i :: js) (hl : ∀ v, (F v).length = js.length)
    (h : Sat W w (sep (tailA Pre ok Post F (dn.map (·.2))) A)) : ∃ (v : Value) (y : Y), dn = (i, v) :: js.zip (F v) ∧ ok y v ∧ Sat W w (sep (Post y) A) := by
  cases dn with
  | nil => simp at hdn
  | cons x dn =>
    obtain ⟨k, v⟩ := x
    simp only [List.map_cons, List.cons.injEq] at hdn h
    obtain ⟨rfl, hj⟩ := hdn
    rw [tailA, ex_sep, Sat.ex] at h
    obtain ⟨y, h⟩ := h
    rw [sep_assoc] at h
    obtain ⟨⟨h1, h2⟩, h3⟩ := Sat.fact.1 h
    refine ⟨v, y, ?_, h1, h3⟩
    have hlen : (dn.map (·.2)).length = (F v).length := by rw [hl, ← hj]; simp
    rw [hlen, List.take_length] at h2
    rw [← h2, ← hj]
    congr 1
    clear h2 hlen h h3 hj
    induction dn with
    | nil => rfl
    | cons z dn ih => simp [← ih]
end
end PA
