/- Threads beside each other, where what all loads need stands in one of the threads. Plain Lean, no program in sight. -/
import Derived.Test.YtodipneapffjdaaGreatDoorGActsSort17
namespace PA
open Go Go.RowKit
section
variable {P : Program} {ops : Array Oper} {Q : Exit → Act → World → Prop} {S : World → Prop} {W : World}
theorem stG_mem {s : StG} : ∀ {l : List StG}, s ∈ l → ∀ A, ∃ X, stG l A = sep s.now X
  | [], h, _ => by cases h
  | u :: l, h, A => by
    rcases List.mem_cons.1 h with rfl | h
    · exact ⟨_, by rw [stG_cons, stG_out]⟩
    · exact stG_mem h (sep u.now A)
theorem LikeG_mem {ts : List ThG} {sts : List StG} (h : LikeG ts sts) {t : ThG} (ht : t ∈ ts) : ∃ s ∈ sts, s.A = t.A := by
  unfold LikeG at h
  have : (nums t.ids, t.A) ∈ sts.map (fun s => (s.dn.map (·.1) ++ nums s.td, s.A)) := by rw [h]; exact List.mem_map.2 ⟨t, ht, rfl⟩
  obtain ⟨s, hs, e⟩ := List.mem_map.1 this
  exact ⟨s, hs, (Prod.mk.inj e).2⟩
theorem wpGrpG_go' {a0 : Act} {A : Assn} {b : Bool} {K : Act → World → Prop} (ts : List ThG) (hS : b = true → ∃ t ∈ ts, ∀ us w X, Sat W w (sep (t.A us) X) → S w) (hfin : finG ops W a0 K ts [] A) :
    ∀ (n : Nat) (sts : List StG) (E : List (Nat × List Nat)) (w : World), E.length = n → E.Perm (sts.flatMap (·.td)) → LikeG ts sts → (∀ s ∈ sts, goodG P ops W a0 s.A s.dn s.td) → (sts.Pairwise fun s t => apartT ops s.all t.all) → Sat W w (stG sts A) →
      wpGrpG P ops Q S b n E K (puts ops (sts.flatMap (·.dn)) a0) w := by
  intro n
  induction n with
  | zero =>
    intro sts E w hn hp hL _ _ hw
    have hE := List.eq_nil_of_length_eq_zero hn
    subst hE
    have := finG_end sts ts [] A hL (List.nil_perm.1 hp) hfin w hw
    rw [List.nil_append] at this
    exact this
  | succ n ih =>
    intro sts E w hn hp hL hg hap hw i hi hr
    obtain ⟨s, hs, his⟩ := List.mem_flatMap.1 (hp.mem_iff.1 hi)
    obtain ⟨S1, S2, rfl⟩ := List.append_of_mem hs
    obtain ⟨dn, td, AT⟩ := s
    cases td with
    | nil => simp at his
    | cons k td =>
      have hgs := hg _ hs
      obtain ⟨⟨o, ho, hsel, hd⟩, hch, hplain, htl, hnext⟩ := hgs
      have hik : i = k := by
        rcases List.mem_cons.1 his with e | hm
        · exact e
        · exfalso
          have h1 := hch i hm
          have h2 : k ∈ E := hp.mem_iff.2 (List.mem_flatMap.2 ⟨_, hs, by simp⟩)
          have h3 := List.all_eq_true.1 hr k h2
          rw [h1] at h3
          cases h3
      subst hik
      have hall : ∀ j ∈ dn.map (·.1) ++ i.1 :: i.2, j ∈ StG.all ⟨dn, i :: td, AT⟩ := fun j hj => by
        unfold StG.all nums
        rw [List.flatMap_cons]
        rcases List.mem_append.1 hj with hj | hj
        · exact List.mem_append_left _ hj
        · exact List.mem_append_right _ (List.mem_append_left _ hj)
      have hpw := List.pairwise_append.1 hap
      have hpc := List.pairwise_cons.1 hpw.2.1
      have hl1 : ∀ x ∈ S1.flatMap (·.dn), ∀ j ∈ dn.map (·.1) ++ i.1 :: i.2, apartB ops x.1 j = true := fun x hx j hj => by
        obtain ⟨s1, hs1, hx1⟩ := List.mem_flatMap.1 hx
        exact hpw.2.2 s1 hs1 ⟨dn, i :: td, AT⟩ (by simp) x.1 (List.mem_append_left _ (List.mem_map.2 ⟨x, hx1, rfl⟩)) j (hall j hj)
      have hl2 : ∀ x ∈ S2.flatMap (·.dn), ∀ j ∈ dn.map (·.1) ++ i.1 :: i.2, apartB ops j x.1 = true := fun x hx j hj => by
        obtain ⟨s1, hs1, hx1⟩ := List.mem_flatMap.1 hx
        exact hpc.1 s1 hs1 j (hall j hj) x.1 (List.mem_append_left _ (List.mem_map.2 ⟨x, hx1, rfl⟩))
      have hacts : ∀ dn' : List (Nat × Value), (∀ y ∈ dn', y.1 ∈ dn.map (·.1) ++ i.1 :: i.2) → puts ops ((S1 ++ ⟨dn', td, AT⟩ :: S2).flatMap (·.dn)) a0 = puts ops (S2.flatMap (·.dn)) (puts ops (S1.flatMap (·.dn)) (puts ops dn' a0)) := fun dn' hdn' => by
        rw [List.flatMap_append, List.flatMap_cons, puts_append, puts_append]
        congr 1
        exact puts_swaps dn' _ (fun x hx y hy => hl1 x hx y.1 (hdn' y hy)) a0
      have hact0 : puts ops ((S1 ++ ⟨dn, i :: td, AT⟩ :: S2).flatMap (·.dn)) a0 = puts ops (S2.flatMap (·.dn)) (puts ops (S1.flatMap (·.dn)) (puts ops dn a0)) := by
        rw [← hacts dn (fun y hy => List.mem_append_left _ (List.mem_map.2 ⟨y, hy, rfl⟩)), List.flatMap_append, List.flatMap_append, List.flatMap_cons, List.flatMap_cons]
      have hboth : ∀ x ∈ S1.flatMap (·.dn) ++ S2.flatMap (·.dn), ∀ j ∈ dn.map (·.1) ++ i.1 :: i.2, apartB ops x.1 j = true ∨ apartB ops j x.1 = true := fun x hx j hj => by
        rcases List.mem_append.1 hx with hx | hx
        · exact .inl (hl1 x hx j hj)
        · exact .inr (hl2 x hx j hj)
      have hd' : DoesS P ops W o (puts ops ((S1 ++ ⟨dn, i :: td, AT⟩ :: S2).flatMap (·.dn)) a0) (AT (dn.map (·.2))) (fun v => AT (dn.map (·.2) ++ [v])) := by
        rw [hact0, ← puts_append]
        exact DoesS.puts ho hsel _ (fun x hx => hboth x hx i.1 (by simp)) hd
      have hw2 : Sat W w (sep (AT (dn.map (·.2))) (stG S2 (stG S1 A))) := by
        rw [stG_append, stG_cons, stG_out] at hw
        exact hw
      refine hd'.wpOp ho hw2 (fun v w' hv => ?_)
      refine ⟨fun hb => ?_, ?_⟩
      · obtain ⟨t, ht, hSt⟩ := hS hb
        obtain ⟨s, hs, hsA⟩ := LikeG_mem hL ht
        rcases List.mem_append.1 hs with h | h
        · obtain ⟨X, hX⟩ := stG_mem h A
          rw [hX, stG_out] at hv
          have hv3 : Sat W w' (sep (s.A (s.dn.map (·.2))) (sep (AT (dn.map (·.2) ++ [v])) (stG S2 X))) := hv.p1
          rw [hsA] at hv3
          exact hSt _ _ _ hv3
        · rcases List.mem_cons.1 h with h | h
          · have e : AT = t.A := by rw [← hsA, h]
            rw [e] at hv
            exact hSt _ _ _ hv
          · obtain ⟨X, hX⟩ := stG_mem h (stG S1 A)
            rw [hX] at hv
            have hv3 : Sat W w' (sep (s.A (s.dn.map (·.2))) (sep (AT (dn.map (·.2) ++ [v])) X)) := hv.p1
            rw [hsA] at hv3
            exact hSt _ _ _ hv3
      · obtain ⟨us, hpu, hv2⟩ := htl v w' _ hv
        have hul := purS_len hpu
        have hdo : dstOf ops i.1 = o.dst := by unfold dstOf; rw [ho]; rfl
        have e1 : (puts ops ((S1 ++ ⟨dn, i :: td, AT⟩ :: S2).flatMap (·.dn)) a0).put o.dst v = puts ops (S1.flatMap (·.dn) ++ S2.flatMap (·.dn)) (puts ops (dn ++ [(i.1, v)]) a0) := by
          rw [hact0, ← hdo, ← puts_append, puts_append dn]
          show _ = puts ops _ ((puts ops dn a0).put (dstOf ops i.1) v)
          exact (puts_swap' v _ (fun x hx => hboth x hx i.1 (by simp)) _).symm
        rw [e1]
        refine wpT_of_purS i.2 us _ w' hplain (purS_puts _ hplain (fun x hx j hj => hboth x hx j (by simp [hj])) hpu) ?_
        have e2 : puts ops (i.2.zip us) (puts ops (S1.flatMap (·.dn) ++ S2.flatMap (·.dn)) (puts ops (dn ++ [(i.1, v)]) a0)) = puts ops ((S1 ++ ⟨dn ++ (i.1, v) :: i.2.zip us, td, AT⟩ :: S2).flatMap (·.dn)) a0 := by
          rw [hacts (dn ++ (i.1, v) :: i.2.zip us) (fun y hy => ?_)]
          · rw [← puts_append (S1.flatMap (·.dn))]
            have e3 : dn ++ (i.1, v) :: i.2.zip us = (dn ++ [(i.1, v)]) ++ i.2.zip us := by simp
            rw [e3, puts_append (dn ++ [(i.1, v)])]
            have key : ∀ (z : List (Nat × Value)), (∀ y ∈ z, y.1 ∈ i.2) → ∀ (L : List (Nat × Value)), (∀ x ∈ L, ∀ j ∈ dn.map (·.1) ++ i.1 :: i.2, apartB ops x.1 j = true ∨ apartB ops j x.1 = true) → ∀ a : Act, puts ops z (puts ops L a) = puts ops L (puts ops z a) := by
              intro z
              induction z with
              | nil => intro _ L _ a; rfl
              | cons y z ihz =>
                intro hz L hL a
                show puts ops z ((puts ops L a).put (dstOf ops y.1) y.2) = puts ops L (puts ops z (a.put (dstOf ops y.1) y.2))
                rw [← puts_swap' y.2 L (fun x hx => hL x hx y.1 (List.mem_append_right _ (List.mem_cons_of_mem _ (hz y (by simp))))), ihz (fun u hu => hz u (by simp [hu])) L hL]
            exact key _ (fun y hy => by obtain ⟨y1, y2⟩ := y; exact (List.of_mem_zip hy).1) _ hboth _
          · rcases List.mem_append.1 hy with hy | hy
            · exact List.mem_append_left _ (List.mem_map.2 ⟨y, hy, rfl⟩)
            · rcases List.mem_cons.1 hy with rfl | hy
              · simp
              · obtain ⟨y1, y2⟩ := y
                exact List.mem_append_right _ (List.mem_cons_of_mem _ (List.of_mem_zip hy).1)
        rw [e2]
        have hzm : ((i.1, v) :: i.2.zip us).map (·.1) = i.1 :: i.2 := by rw [List.map_cons, List.map_fst_zip (by omega)]
        have hzs : ((i.1, v) :: i.2.zip us).map (·.2) = v :: us := by rw [List.map_cons, List.map_snd_zip (by omega)]
        refine ih _ (E.erase i) w' ?_ ?_ ?_ ?_ ?_ ?_
        · rw [List.length_erase_of_mem hi, hn]; rfl
        · have h1 : ((S1 ++ ⟨dn, i :: td, AT⟩ :: S2).flatMap (·.td)).Perm (i :: (S1 ++ ⟨dn ++ (i.1, v) :: i.2.zip us, td, AT⟩ :: S2).flatMap (·.td)) := by
            simp only [List.flatMap_append, List.flatMap_cons]
            exact List.perm_middle
          have h2 := (hp.trans h1).erase i
          rw [List.erase_cons_head] at h2
          exact h2
        · unfold LikeG at *
          rw [← hL]
          simp only [List.map_append, List.map_cons]
          rw [show i.1 :: (i.2.zip us).map (·.1) = i.1 :: i.2 by rw [← hzm]; rfl]
          congr 2
          simp [nums]
        · intro s hs'
          rcases List.mem_append.1 hs' with h | h
          · exact hg s (List.mem_append_left _ h)
          · rcases List.mem_cons.1 h with rfl | h
            · exact hnext v us hul
            · exact hg s (by simp [h])
        · have hsame : StG.all ⟨dn ++ (i.1, v) :: i.2.zip us, td, AT⟩ = StG.all ⟨dn, i :: td, AT⟩ := by
            unfold StG.all nums
            rw [List.map_append, hzm, List.flatMap_cons, List.append_assoc]
          refine List.pairwise_append.2 ⟨hpw.1, List.pairwise_cons.2 ⟨fun y hy => ?_, hpc.2⟩, fun x hx y hy => ?_⟩
          · rw [hsame]; exact hpc.1 y hy
          · rcases List.mem_cons.1 hy with rfl | hy
            · rw [hsame]; exact hpw.2.2 x hx _ (List.mem_cons_self)
            · exact hpw.2.2 x hx y (by simp [hy])
        · rw [stG_append, stG_cons, stG_out]
          show Sat W w' (sep (AT ((dn ++ (i.1, v) :: i.2.zip us).map (·.2))) (stG S2 (stG S1 A)))
          rw [List.map_append, hzs]
          exact hv2
/-- A group of effects, as threads beside each other. -/
theorem wpJ_threads' {a : Act} {w : World} {A : Assn} {b : Bool} {l : List ItG} {K : Act → World → Prop} (ts : List ThG) (hS : b = true → ∃ t ∈ ts, ∀ us w X, Sat W w (sep (t.A us) X) → S w)
    (hap : pairsTB ops (ts.map (fun t => nums t.ids)) = true) (hg : ∀ t ∈ ts, goodG P ops W a t.A [] t.ids) (hw : Sat W w (ts.foldl (fun B t => sep (t.A []) B) A)) (hfin : finG ops W a (wpJ P ops Q S l K) ts [] A) :
    wpJ P ops Q S (.grp b (ts.flatMap (·.ids)) :: l) K a w := by
  have hsts : stG (ts.map fun t => (⟨[], t.ids, t.A⟩ : StG)) A = ts.foldl (fun B t => sep (t.A []) B) A := by
    rw [stG, List.foldl_map]; rfl
  have h := wpGrpG_go' (P := P) (Q := Q) (S := S) (b := b) ts hS hfin _ (ts.map fun t => (⟨[], t.ids, t.A⟩ : StG)) (ts.flatMap (·.ids)) w rfl ?_ ?_ ?_ (pairsTG_ok ts hap) (by rw [hsts]; exact hw)
  · have e : (ts.map fun t => (⟨[], t.ids, t.A⟩ : StG)).flatMap (·.dn) = [] := by
      induction ts with
      | nil => rfl
      | cons t ts ih => simp
    rw [e] at h
    exact h
  · rw [List.flatMap_map]
  · unfold LikeG; simp
  · intro s hs
    obtain ⟨t, ht, rfl⟩ := List.mem_map.1 hs
    exact hg t ht
end
end PA
