/- Package disk: Crash, what its loop keeps. -/
import Derived.Test.YtdaknmcmjnbfeaaGreatGJournalRuns16
namespace Go.Proofs.YtdaknmcmjnbfeaaGreat
open Go.RowKit PA
abbrev Hole := Option (Nat × Nat × Nat)
/-- The files in memory; one of them (its number, block, room) may lie in a row of its own. -/
def FOKh (I : Mem) (f : Int → Option Value) (fs : Nat → File) (o : Hole) : Prop :=
  (∀ j : Nat, (fs j).1 ≠ [] → (∀ x, o = some x → j ≠ x.1) → ∃ a c, f (j : Int) = some (fileV a (fs j).1.length c (fs j).2) ∧ rBytes.rel I [.slice a (fs j).1.length c] (fs j).1) ∧
  (∀ k : Int, (f k).isSome = true → ∃ j : Nat, k = (j : Int) ∧ (fs j).1 ≠ []) ∧
  (∀ x, o = some x → f (x.1 : Int) = some (fileV (some ⟨x.2.1, 0, none⟩) (fs x.1).1.length x.2.2 (fs x.1).2))
def fokhA (f : Int → Option Value) (fs : Nat → File) (o : Hole) : Assn := pers (fun I => FOKh I f fs o) fun _ _ hl h => ⟨fun j hj hx => by
  obtain ⟨a, c, e, hr⟩ := h.1 j hj hx
  exact ⟨a, c, e, rBytes.mono hl hr⟩, h.2.1, h.2.2⟩
def holeA (fs : Nat → File) : Hole → Assn
  | none => emp
  | some x => osl 5 1 (some ⟨x.2.1, 0, none⟩) (fs x.1).1.length x.2.2 ((fs x.1).1.map bv)
def holeAt (tg : Option Nat) (ks : List Nat) (i : Nat) (G : Nat → Nat) (C : Nat) : Hole := match tg with
  | some t => if t ∈ ks.take i then some (t, G t, C) else none
  | none => none
theorem holeAt_file {tg : Option Nat} {ks : List Nat} {i : Nat} {G : Nat → Nat} {C : Nat} {x : Nat × Nat × Nat} (h : holeAt tg ks i G C = some x) : x.1 ∈ ks.take i := by
  unfold holeAt at h
  split at h
  · split at h
    · rename_i hm; cases h; exact hm
    · cases h
  · cases h
theorem not_mem_take {ks : List Nat} (hn : ks.Nodup) {i n : Nat} (h : ks[i]? = some n) : n ∉ ks.take i := by
  intro hm
  obtain ⟨j, hj, e⟩ := List.mem_iff_getElem.1 hm
  rw [List.getElem_take] at e
  obtain ⟨hi, e2⟩ := List.getElem?_eq_some_iff.1 h
  rw [List.length_take] at hj
  have := (List.getElem_inj hn).1 (e.trans e2.symm)
  omega
theorem mem_take_succ {ks : List Nat} {i n t : Nat} (h : ks[i]? = some n) : t ∈ ks.take (i + 1) ↔ t ∈ ks.take i ∨ t = n := by
  rw [List.take_add_one, h]
  simp
def setG (G : Nat → Nat) (n g : Nat) : Nat → Nat := fun x => if x = n then g else G x
theorem holeAt_other {tg : Option Nat} {ks : List Nat} {i n : Nat} {G : Nat → Nat} {C : Nat} (g : Nat) (hi : ks[i]? = some n) (ht : tg ≠ some n) : holeAt tg ks (i + 1) (setG G n g) C = holeAt tg ks i G C := by
  unfold holeAt
  cases tg with
  | none => rfl
  | some t =>
    have htn : t ≠ n := fun e => ht (by rw [e])
    simp only [mem_take_succ hi, htn, or_false, setG, if_false]
theorem holeAt_this {ks : List Nat} {i n : Nat} {G : Nat → Nat} {C : Nat} (g : Nat) (hn : ks.Nodup) (hi : ks[i]? = some n) : holeAt (some n) ks (i + 1) (setG G n g) C = some (n, g, C) ∧ holeAt (some n) ks i G C = none := by
  unfold holeAt
  constructor
  · show (if n ∈ ks.take (i + 1) then some (n, setG G n g n, C) else none) = _
    rw [if_pos ((mem_take_succ hi).2 (.inr rfl))]; simp [setG]
  · show (if n ∈ ks.take i then some (n, G n, C) else none) = _
    rw [if_neg (not_mem_take hn hi)]
theorem FOKh.put {I : Mem} {f : Int → Option Value} {fs : Nat → File} {o : Hole} (h : FOKh I f fs o) (n : Nat) (ho : ∀ x, o = some x → x.1 ≠ n) {a : Option Addr} {c d : Nat} {bs : List UInt8} (hv : rBytes.rel I [.slice a bs.length c] bs) :
    FOKh I (setF f n a bs.length c d) (dset fs n (bs, d)) o := by
  have hother : ∀ j : Nat, j ≠ n → setF f n a bs.length c d (j : Int) = f (j : Int) := fun j hj => by
    have : (j : Int) ≠ (n : Int) := by omega
    unfold setF fset; split <;> simp [this]
  refine ⟨fun j hj hx => ?_, fun k hk => ?_, fun x hx => ?_⟩
  · by_cases e : j = n
    · subst e
      have e1 : dset fs j (bs, d) j = (bs, d) := by simp [dset]
      rw [e1] at hj ⊢
      refine ⟨a, c, ?_, hv⟩
      have : bs.length ≠ 0 := fun e => hj (List.eq_nil_of_length_eq_zero e)
      rw [setF, if_neg this]
      simp [fset]
    · have e1 : dset fs n (bs, d) j = fs j := by simp [dset, e]
      rw [e1] at hj ⊢
      rw [hother j e]
      exact h.1 j hj hx
  · by_cases e : k = (n : Int)
    · subst e
      refine ⟨n, rfl, ?_⟩
      have e1 : dset fs n (bs, d) n = (bs, d) := by simp [dset]
      rw [e1]
      intro hb
      have hb' : bs = [] := hb
      subst hb'
      simp [setF, fset] at hk
    · have : (f k).isSome = true := by
        unfold setF at hk; split at hk <;> simpa [fset, e] using hk
      obtain ⟨j, hj, hne⟩ := h.2.1 k this
      refine ⟨j, hj, ?_⟩
      have : j ≠ n := fun q => e (by rw [hj, q])
      simpa [dset, this] using hne
  · have hxn := ho x hx
    rw [hother _ hxn]
    have e1 : dset fs n (bs, d) x.1 = fs x.1 := by simp [dset, hxn]
    rw [e1]
    exact h.2.2 x hx
theorem FOKh.open {I : Mem} {f : Int → Option Value} {fs : Nat → File} (h : FOKh I f fs none) (n : Nat) {g c d : Nat} {bs : List UInt8} (hb : bs ≠ []) :
    FOKh I (setF f n (some ⟨g, 0, none⟩) bs.length c d) (dset fs n (bs, d)) (some (n, g, c)) := by
  have hl : bs.length ≠ 0 := fun e => hb (List.eq_nil_of_length_eq_zero e)
  rw [setF, if_neg hl]
  refine ⟨fun j hj hx => ?_, fun k hk => ?_, fun x hx => ?_⟩
  · have e : j ≠ n := hx _ rfl
    have e1 : dset fs n (bs, d) j = fs j := by simp [dset, e]
    rw [e1] at hj ⊢
    obtain ⟨a, c', e2, hr⟩ := h.1 j hj (fun x hx => by cases hx)
    refine ⟨a, c', ?_, hr⟩
    unfold fset
    rw [if_neg (by omega)]; exact e2
  · by_cases e : k = (n : Int)
    · exact ⟨n, e, by simpa [dset] using hb⟩
    · have : (f k).isSome = true := by simpa [fset, e] using hk
      obtain ⟨j, hj, hne⟩ := h.2.1 k this
      refine ⟨j, hj, ?_⟩
      have : j ≠ n := fun q => e (by rw [hj, q])
      simpa [dset, this] using hne
  · cases hx
    have e1 : dset fs n (bs, d) n = (bs, d) := by simp [dset]
    rw [e1]
    simp [fset]
theorem FOK.toh {I : Mem} {f : Int → Option Value} {fs : Nat → File} (h : FOK I f fs) : FOKh I f fs none := ⟨fun j hj _ => h.1 j hj, h.2, fun x hx => by cases hx⟩
theorem FOKh.none {I : Mem} {f : Int → Option Value} {fs : Nat → File} (h : FOKh I f fs none) : FOK I f fs := ⟨fun j hj => h.1 j hj (fun x hx => by cases hx), h.2.1⟩
theorem FOKh.close {I : Mem} {f : Int → Option Value} {fs : Nat → File} {x : Nat × Nat × Nat} (h : FOKh I f fs (some x)) (hv : rBytes.rel I [.slice (some ⟨x.2.1, 0, Option.none⟩) (fs x.1).1.length x.2.2] (fs x.1).1) : FOK I f fs := by
  refine ⟨fun j hj => ?_, h.2.1⟩
  by_cases e : j = x.1
  · rw [e]; exact ⟨_, _, h.2.2 x rfl, hv⟩
  · exact h.1 j hj (fun y hy => by cases hy; exact e)
theorem FOKh.change {I : Mem} {f : Int → Option Value} {fs : Nat → File} {x : Nat × Nat × Nat} (h : FOKh I f fs (some x)) {bs : List UInt8} (hl : bs.length = (fs x.1).1.length) : FOKh I f (dset fs x.1 (bs, (fs x.1).2)) (some x) := by
  refine ⟨fun j hj hx => ?_, fun k hk => ?_, fun y hy => ?_⟩
  · have e := hx x rfl
    have e1 : dset fs x.1 (bs, (fs x.1).2) j = fs j := by simp [dset, e]
    rw [e1] at hj ⊢
    exact h.1 j hj hx
  · obtain ⟨j, hj, hne⟩ := h.2.1 k hk
    refine ⟨j, hj, ?_⟩
    by_cases e : j = x.1
    · subst e
      have e1 : dset fs x.1 (bs, (fs x.1).2) x.1 = (bs, (fs x.1).2) := by simp [dset]
      rw [e1]
      intro hb
      have hb' : bs = [] := hb
      rw [hb'] at hl
      exact hne (List.eq_nil_of_length_eq_zero hl.symm)
    · simpa [dset, e] using hne
  · cases hy
    have e1 : dset fs x.1 (bs, (fs x.1).2) x.1 = (bs, (fs x.1).2) := by simp [dset]
    rw [e1]
    show f _ = some (fileV _ bs.length _ _)
    rw [hl]
    exact h.2.2 x rfl
theorem holeA_other (fs : Nat → File) (n : Nat) (y : File) (o : Hole) (ho : ∀ x, o = some x → x.1 ≠ n) : holeA (dset fs n y) o = holeA fs o := by
  cases o with
  | none => rfl
  | some x =>
    have := ho x rfl
    have e1 : dset fs n y x.1 = fs x.1 := by simp [dset, this]
    show osl _ _ _ (dset fs n y x.1).1.length _ _ = _
    rw [holeA, e1]
section
variable {W w : World} {A : Assn}
/-- A file that is no target has been cut: its new row is given up. -/
theorem cr_put {f : Int → Option Value} {fs : Nat → File} {o : Hole} (n : Nat) (ho : ∀ x, o = some x → x.1 ≠ n) {a : Option Addr} {l c d : Nat} {bs : List UInt8} (hl : l = bs.length)
    (h : Sat W w (sep (osl 5 1 a l c (bs.map bv)) (sep (fokhA f fs o) A))) : Sat W w (sep (fokhA (setF f n a l c d) (dset fs n (bs, d)) o) A) := by
  subst hl
  refine h.bytes_of_osl.2.wk ?_
  rintro I m ⟨x, y, d1, rfl, ⟨rfl, hb⟩, x2, y2, d2, rfl, ⟨rfl, hf⟩, hA⟩
  exact ⟨Mem.no, y2, fun _ => .inl rfl, by rw [Mem.un_no], ⟨rfl, hf.put n ho hb⟩, hA⟩
theorem cr_open {f : Int → Option Value} {fs : Nat → File} (n : Nat) {g l c d : Nat} {bs : List UInt8} (hl : l = bs.length) (hb : bs ≠ [])
    (h : Sat W w (sep (osl 5 1 (some ⟨g, 0, none⟩) l c (bs.map bv)) (sep (fokhA f fs none) A))) : Sat W w (sep (fokhA (setF f n (some ⟨g, 0, none⟩) l c d) (dset fs n (bs, d)) (some (n, g, c))) (sep (holeA (dset fs n (bs, d)) (some (n, g, c))) A)) := by
  subst hl
  have e1 : dset fs n (bs, d) n = (bs, d) := by simp [dset]
  rw [holeA]
  dsimp only
  rw [e1]
  refine h.p1.wk ?_
  rintro I m ⟨x, y, d1, rfl, ⟨rfl, hf⟩, hA⟩
  exact ⟨Mem.no, y, fun _ => .inl rfl, rfl, ⟨rfl, hf.open n hb⟩, hA⟩
theorem cr_close {f : Int → Option Value} {fs : Nat → File} {o : Hole} (h : Sat W w (sep (fokhA f fs o) (sep (holeA fs o) A))) : Sat W w (sep (fokA f fs) A) := by
  cases o with
  | none =>
    have h1 : Sat W w (sep (fokhA f fs none) (sep emp A)) := h
    rw [emp_sep] at h1
    refine h1.wk ?_
    rintro I m ⟨x, y, d1, rfl, ⟨rfl, hf⟩, hA⟩
    exact ⟨Mem.no, y, d1, rfl, ⟨rfl, hf.none⟩, hA⟩
  | some z =>
    have h1 : Sat W w (sep (fokhA f fs (some z)) (sep (osl 5 1 (some ⟨z.2.1, 0, none⟩) (fs z.1).1.length z.2.2 ((fs z.1).1.map bv)) A)) := h
    refine h1.p1.bytes_of_osl.2.wk ?_
    rintro I m ⟨x, y, d1, rfl, ⟨rfl, hb⟩, x2, y2, d2, rfl, ⟨rfl, hf⟩, hA⟩
    exact ⟨Mem.no, y2, fun _ => .inl rfl, by rw [Mem.un_no], ⟨rfl, hf.close hb⟩, hA⟩
end
def ptrG (G : Nat → Nat) (x : Nat × Nat) : Value := .pointer (some ⟨G x.1, x.2, none⟩)
theorem map_ptrG {G : Nat → Nat} {n g : Nat} {l : List (Nat × Nat)} (h : ∀ x ∈ l, x.1 ≠ n) : l.map (ptrG (setG G n g)) = l.map (ptrG G) := by
  refine List.map_congr_left fun x hx => ?_
  simp [ptrG, setG, h x hx]
theorem file_le {s : DSt} (hok : s.ok) (n : Nat) : (s.fs n).1.length ≤ 16777216 := by
  rcases Nat.lt_or_ge n 64 with h | h
  · have h1 := used_ge (fs := s.fs) h
    have h2 := hok.fit
    have h3 := hok.room
    unfold DSt.used at h2
    omega
  · rw [hok.hi _ h]; exact Nat.zero_le _
theorem looseN_lenM {fs : Nat → File} {M : Nat} (hM : ∀ j, (fs j).1.length ≤ M) (ks : List Nat) (keep : List Int) : ∀ i, (looseN fs ks keep i).length ≤ i * M
  | 0 => Nat.zero_le _
  | i + 1 => by
    have ih := looseN_lenM hM ks keep i
    rw [Nat.add_mul]
    rcases hm : ks[i]? with _ | n
    · rw [looseN_none hm]; omega
    · rw [looseN_some hm]
      have h1 := keptD_le (fs n) keep i
      have h2 := hM n
      simp only [List.length_append, List.length_map, List.length_range]
      omega
theorem looseN_len {s : DSt} (hok : s.ok) (ks : List Nat) (keep : List Int) (i : Nat) (hi : i ≤ 64) : (looseN s.fs ks keep i).length ≤ 1073741824 := by
  have h1 := looseN_lenM (file_le hok) ks keep i
  have h2 : i * 16777216 ≤ 64 * 16777216 := Nat.mul_le_mul_right _ hi
  exact Nat.le_trans h1 h2
/-- The file of the bit that a crash inverts. -/
def tgt (s : DSt) (keep : List Int) (flip : Int) : Option Nat :=
  if 0 ≤ flip ∧ looseD s keep ≠ [] then ((looseD s keep)[flip.toNat % (8 * (looseD s keep).length) / 8]?).map (·.1) else none
theorem tgt_kept {s : DSt} {keep : List Int} {flip : Int} {i n : Nat} (hi : (filesD s.fs)[i]? = some n) (ht : tgt s keep flip = some n) : 0 < keptD (s.fs n) keep i := by
  unfold tgt at ht
  split at ht
  · obtain ⟨x, hx, rfl⟩ := Option.map_eq_some_iff.1 ht
    obtain ⟨j, hj, h1, h2, h3⟩ := looseN_mem (List.mem_of_getElem? hx)
    have : i = j := by
      obtain ⟨a1, a2⟩ := List.getElem?_eq_some_iff.1 hi
      obtain ⟨b1, b2⟩ := List.getElem?_eq_some_iff.1 h1
      exact (List.getElem_inj (filesD_nodup s.fs)).1 (a2.trans b2.symm)
    subst this
    omega
  · cases ht
/-- What a crash's loop keeps after i files. -/
def CrI (W : World) (A : Assn) (p b : Nat) (s : DSt) (left : Int) (keep : List Int) (tg : Option Nat) (K : Mem) (i : Nat) (lv : Value) (wr : World) : Prop :=
  ∃ (a : Option Addr) (c : Nat) (f : Int → Option Value) (nf : Nat) (G : Nat → Nat) (C : Nat), lv = .slice a (looseN s.fs (filesD s.fs) keep i).length c ∧
    Sat W wr (sep (osl 68 1 a (looseN s.fs (filesD s.fs) keep i).length c ((looseN s.fs (filesD s.fs) keep i).map (ptrG G))) (sep (blk p (.cells (diskC b s left) 62 (0, 0))) (sep (bmap b f nf)
      (sep (fokhA f (cutN s.fs (filesD s.fs) keep i) (holeAt tg (filesD s.fs) i G C)) (sep (holeA (cutN s.fs (filesD s.fs) keep i) (holeAt tg (filesD s.fs) i G C)) (sep (kn K) A))))))
/-- One file more. -/
theorem CrI.step {W w : World} {A : Assn} {p b : Nat} {s : DSt} {left : Int} {keep : List Int} {flip : Int} {K : Mem} {i n : Nat} (hok : s.ok) (hi : (filesD s.fs)[i]? = some n)
    {a a' : Option Addr} {c c' C l nf : Nat} {f : Int → Option Value} {G : Nat → Nat} {bs : List UInt8} (hl : l = bs.length) (hbs : bs = (s.fs n).1.take ((s.fs n).2 + keptD (s.fs n) keep i)) (g : Nat) (hg : l ≠ 0 → a' = some ⟨g, 0, none⟩) {vs : List Value} {nv : Nat}
    (hvs : vs = (looseN s.fs (filesD s.fs) keep i).map (ptrG G) ++ (List.range (keptD (s.fs n) keep i)).map (fun j => .pointer (some ⟨g, (s.fs n).2 + j, none⟩))) (hnv : nv = (looseN s.fs (filesD s.fs) keep i).length + keptD (s.fs n) keep i)
    (h : Sat W w (sep (osl 68 1 a nv c vs) (sep (blk p (.cells (diskC b s left) 62 (0, 0))) (sep (bmap b (setF f n a' l c' (s.fs n).2) nf) (sep (osl 5 1 a' l c' (bs.map bv))
      (sep (fokhA f (cutN s.fs (filesD s.fs) keep i) (holeAt (tgt s keep flip) (filesD s.fs) i G C)) (sep (holeA (cutN s.fs (filesD s.fs) keep i) (holeAt (tgt s keep flip) (filesD s.fs) i G C)) (sep (kn K) A)))))))) :
    CrI W A p b s left keep (tgt s keep flip) K (i + 1) (.slice a nv c) w := by
  have hnd := filesD_nodup s.fs
  have hni := not_mem_take hnd hi
  have hlo : looseN s.fs (filesD s.fs) keep (i + 1) = looseN s.fs (filesD s.fs) keep i ++ (List.range (keptD (s.fs n) keep i)).map fun j => (n, (s.fs n).2 + j) := looseN_some hi
  have hcut : cutN s.fs (filesD s.fs) keep (i + 1) = dset (cutN s.fs (filesD s.fs) keep i) n (bs, (s.fs n).2) := by rw [cutN_some hi, hbs]; rfl
  have hfile : ∀ x ∈ looseN s.fs (filesD s.fs) keep i, x.1 ≠ n := fun x hx e => by
    obtain ⟨j, hj, h1, -⟩ := looseN_mem hx
    rw [e] at h1
    obtain ⟨a1, a2⟩ := List.getElem?_eq_some_iff.1 hi
    obtain ⟨b1, b2⟩ := List.getElem?_eq_some_iff.1 h1
    have := (List.getElem_inj hnd).1 (a2.trans b2.symm)
    omega
  have hvs2 : (looseN s.fs (filesD s.fs) keep (i + 1)).map (ptrG (setG G n g)) = vs := by
    rw [hlo, List.map_append, map_ptrG hfile, hvs, List.map_map]
    congr 1
    refine List.map_congr_left fun j _ => ?_
    simp [ptrG, setG]
  have hnv2 : (looseN s.fs (filesD s.fs) keep (i + 1)).length = nv := by rw [hlo, hnv]; simp
  have ho : ∀ x, holeAt (tgt s keep flip) (filesD s.fs) i G C = some x → x.1 ≠ n := fun x hx e => hni (by rw [← e]; exact holeAt_file hx)
  by_cases ht : tgt s keep flip = some n
  · have hk := tgt_kept hi ht
    have hb : bs ≠ [] := by
      intro e
      have h1 := keptD_le (s.fs n) keep i
      have h2 := hok.dur n
      rw [e] at hbs
      have := congrArg List.length hbs
      simp at this
      omega
    have hl0 : l ≠ 0 := fun e => hb (List.eq_nil_of_length_eq_zero (by omega))
    obtain rfl := hg hl0
    rw [ht] at h ⊢
    obtain ⟨e1, e2⟩ := holeAt_this (C := c') (G := G) g hnd hi
    have e3 := (holeAt_this (C := C) (G := G) g hnd hi).2
    rw [e3] at h
    refine ⟨a, c, setF f n (some ⟨g, 0, none⟩) l c' (s.fs n).2, nf, setG G n g, c', by rw [hnv2], ?_⟩
    rw [hnv2, hvs2, e1, hcut]
    have h1 : Sat W w (sep (osl 5 1 (some ⟨g, 0, none⟩) l c' (bs.map bv)) (sep (fokhA f (cutN s.fs (filesD s.fs) keep i) none) (sep (osl 68 1 a nv c vs) (sep (blk p (.cells (diskC b s left) 62 (0, 0))) (sep (bmap b (setF f n (some ⟨g, 0, none⟩) l c' (s.fs n).2) nf) (sep emp (sep (kn K) A))))))) := by
      simpa only [holeA, sep_comm, sep_lcomm, sep_assoc] using h
    have h2 := cr_open n (d := (s.fs n).2) hl hb h1
    simpa only [emp_sep, sep_comm, sep_lcomm, sep_assoc] using h2
  · have e1 := holeAt_other (C := C) (G := G) g hi ht
    refine ⟨a, c, setF f n a' l c' (s.fs n).2, nf, setG G n g, C, by rw [hnv2], ?_⟩
    rw [hnv2, hvs2, e1, hcut, holeA_other _ _ _ _ ho]
    have h1 : Sat W w (sep (osl 5 1 a' l c' (bs.map bv)) (sep (fokhA f (cutN s.fs (filesD s.fs) keep i) (holeAt (tgt s keep flip) (filesD s.fs) i G C)) (sep (osl 68 1 a nv c vs) (sep (blk p (.cells (diskC b s left) 62 (0, 0))) (sep (bmap b (setF f n a' l c' (s.fs n).2) nf) (sep (holeA (cutN s.fs (filesD s.fs) keep i) (holeAt (tgt s keep flip) (filesD s.fs) i G C)) (sep (kn K) A))))))) := by
      simpa only [sep_comm, sep_lcomm, sep_assoc] using h
    have h2 := cr_put n ho (d := (s.fs n).2) hl h1
    simpa only [sep_comm, sep_lcomm, sep_assoc] using h2
end Go.Proofs.YtdaknmcmjnbfeaaGreat
