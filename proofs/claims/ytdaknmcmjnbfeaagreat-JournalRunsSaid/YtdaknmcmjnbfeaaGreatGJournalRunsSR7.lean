/- The reference's disk: Crash, what its loops keep. -/
import Derived.Test.YtdaknmcmjnbfeaaGreatGJournalRuns23
namespace Go.Proofs.YtdaknmcmjnbfeaaGreat
open Go.RowKit PA
/-- The files' slices; one of them may lead to a row of its own. -/
def FOKrh (I : Mem) (V : Nat → Value) (fs : Nat → File) (o : Hole) : Prop :=
  (∀ j, j < 64 → (∀ x, o = some x → j ≠ x.1) → rBytes.rel I [V j] (fs j).1) ∧
  (∀ x, o = some x → V x.1 = .slice (some ⟨x.2.1, 0, none⟩) (fs x.1).1.length x.2.2)
def fokrh (V : Nat → Value) (fs : Nat → File) (o : Hole) : Assn := pers (fun I => FOKrh I V fs o) fun _ _ hl h => ⟨fun j hj hx => rBytes.mono hl (h.1 j hj hx), h.2⟩
theorem cutN_2 (fs : Nat → File) (ks : List Nat) (keep : List Int) (i j : Nat) : (cutN fs ks keep i j).2 = (fs j).2 := by
  rcases cutN_cases (fs := fs) (ks := ks) (keep := keep) j i with e | ⟨m, -, e⟩
  · rw [e]
  · rw [e]; rfl
section
variable {W w : World} {A : Assn}
theorem crr_put {V : Nat → Value} {fs : Nat → File} {o : Hole} (n : Nat) (ho : ∀ x, o = some x → x.1 ≠ n) {a : Option Addr} {l c d : Nat} {bs : List UInt8} (hl : l = bs.length)
    (h : Sat W w (sep (osl 5 1 a l c (bs.map bv)) (sep (fokrh V fs o) A))) : Sat W w (sep (fokrh (vset V n (.slice a l c)) (dset fs n (bs, d)) o) A) := by
  subst hl
  refine h.bytes_of_osl.2.wk ?_
  rintro I m ⟨x, y, d1, rfl, ⟨rfl, hb⟩, x2, y2, d2, rfl, ⟨rfl, hf⟩, hA⟩
  refine ⟨Mem.no, y2, fun _ => .inl rfl, by rw [Mem.un_no], ⟨rfl, fun j hj hx => ?_, fun x hx => ?_⟩, hA⟩
  · unfold vset dset
    split
    · exact hb
    · exact hf.1 j hj hx
  · have e := ho x hx
    have h1 : vset V n (.slice a bs.length c) x.1 = V x.1 := by unfold vset; rw [if_neg e]
    have h2 : dset fs n (bs, d) x.1 = fs x.1 := by unfold dset; rw [if_neg e]
    rw [h1, h2]; exact hf.2 x hx
theorem crr_open {V : Nat → Value} {fs : Nat → File} (n : Nat) {g l c d : Nat} {bs : List UInt8} (hl : l = bs.length)
    (h : Sat W w (sep (osl 5 1 (some ⟨g, 0, none⟩) l c (bs.map bv)) (sep (fokrh V fs none) A))) : Sat W w (sep (fokrh (vset V n (.slice (some ⟨g, 0, none⟩) l c)) (dset fs n (bs, d)) (some (n, g, c))) (sep (holeA (dset fs n (bs, d)) (some (n, g, c))) A)) := by
  subst hl
  have e1 : dset fs n (bs, d) n = (bs, d) := by simp [dset]
  rw [holeA]
  dsimp only
  rw [e1]
  refine h.p1.wk ?_
  rintro I m ⟨x, y, d1, rfl, ⟨rfl, hf⟩, hA⟩
  refine ⟨Mem.no, y, fun _ => .inl rfl, rfl, ⟨rfl, fun j hj hx => ?_, fun x hx => ?_⟩, hA⟩
  · have e := hx _ rfl
    have h1 : vset V n (.slice (some ⟨g, 0, none⟩) bs.length c) j = V j := by unfold vset; rw [if_neg e]
    have h2 : dset fs n (bs, d) j = fs j := by unfold dset; rw [if_neg e]
    rw [h1, h2]
    exact hf.1 j hj (fun x hx => by cases hx)
  · cases hx
    rw [e1]
    simp [vset]
/-- Both files' lists agree but for the open one's bytes. -/
theorem crr_close {V : Nat → Value} {fs fs' : Nat → File} {o : Hole} (he : ∀ j, (∀ x, o = some x → j ≠ x.1) → fs' j = fs j) (hl : ∀ x, o = some x → (fs' x.1).1.length = (fs x.1).1.length) (h : Sat W w (sep (fokrh V fs o) (sep (holeA fs' o) A))) : Sat W w (sep (fokr V fs') A) := by
  cases o with
  | none =>
    have h1 : Sat W w (sep (fokrh V fs none) (sep emp A)) := h
    rw [emp_sep] at h1
    refine h1.wk ?_
    rintro I m ⟨x, y, d1, rfl, ⟨rfl, hf⟩, hA⟩
    refine ⟨Mem.no, y, d1, rfl, ⟨rfl, fun j hj => ?_⟩, hA⟩
    rw [he j (fun x hx => by cases hx)]
    exact hf.1 j hj (fun x hx => by cases hx)
  | some z =>
    have h1 : Sat W w (sep (fokrh V fs (some z)) (sep (osl 5 1 (some ⟨z.2.1, 0, none⟩) (fs' z.1).1.length z.2.2 ((fs' z.1).1.map bv)) A)) := h
    refine h1.p1.bytes_of_osl.2.wk ?_
    rintro I m ⟨x, y, d1, rfl, ⟨rfl, hb⟩, x2, y2, d2, rfl, ⟨rfl, hf⟩, hA⟩
    refine ⟨Mem.no, y2, fun _ => .inl rfl, by rw [Mem.un_no], ⟨rfl, fun j hj => ?_⟩, hA⟩
    by_cases e : j = z.1
    · subst e
      have := hf.2 z rfl
      rw [this, ← hl z rfl]
      exact hb
    · rw [he j (fun x hx => by cases hx; exact e)]
      exact hf.1 j hj (fun x hx => by cases hx; exact e)
end
/-- What the first loop keeps after i files. -/
def CrR (W : World) (A : Assn) (p B F : Nat) (s : DSt) (keep : List Int) (tg : Option Nat) (K : Mem) (i : Nat) (wr : World) : Prop :=
  ∃ (V : Nat → Value) (G : Nat → Nat) (C : Nat), Sat W wr (sep (blk p (.cells (rdC B F s) 50 (0, 0))) (sep (blk B (.cells (rowC V) 39 (0, 0))) (sep (blk F (.cells (rowC (firmV s.fs)) 3 (0, 0)))
      (sep (fokrh V (cutN s.fs (filesD s.fs) keep i) (holeAt tg (filesD s.fs) i G C)) (sep (holeA (cutN s.fs (filesD s.fs) keep i) (holeAt tg (filesD s.fs) i G C)) (sep (kn K) A))))))
theorem CrR.step {W w : World} {A : Assn} {p B F : Nat} {s : DSt} {keep : List Int} {flip : Int} {K : Mem} {i n : Nat} (hok : s.ok) (hi : (filesD s.fs)[i]? = some n)
    {a' : Option Addr} {c' C l : Nat} {V : Nat → Value} {G : Nat → Nat} {bs : List UInt8} (hl : l = bs.length) (hbs : bs = (s.fs n).1.take ((s.fs n).2 + keptD (s.fs n) keep i)) (g : Nat) (hg : l ≠ 0 → a' = some ⟨g, 0, none⟩)
    (h : Sat W w (sep (blk p (.cells (rdC B F s) 50 (0, 0))) (sep (blk B (.cells (rowC (vset V n (.slice a' l c'))) 39 (0, 0))) (sep (blk F (.cells (rowC (firmV s.fs)) 3 (0, 0))) (sep (osl 5 1 a' l c' (bs.map bv))
      (sep (fokrh V (cutN s.fs (filesD s.fs) keep i) (holeAt (tgt s keep flip) (filesD s.fs) i G C)) (sep (holeA (cutN s.fs (filesD s.fs) keep i) (holeAt (tgt s keep flip) (filesD s.fs) i G C)) (sep (kn K) A)))))))) :
    CrR W A p B F s keep (tgt s keep flip) K (i + 1) w := by
  have hnd := filesD_nodup s.fs
  have hni := not_mem_take hnd hi
  have hcut : cutN s.fs (filesD s.fs) keep (i + 1) = dset (cutN s.fs (filesD s.fs) keep i) n (bs, (s.fs n).2) := by rw [cutN_some hi, hbs]; rfl
  have ho : ∀ x, holeAt (tgt s keep flip) (filesD s.fs) i G C = some x → x.1 ≠ n := fun x hx e => hni (by rw [← e]; exact holeAt_file hx)
  by_cases ht : tgt s keep flip = some n
  · have hk := tgt_kept hi ht
    have hb : bs ≠ [] := by
      intro e
      have h1 := keptD_le (s.fs n) keep i
      have h2 := hok.dur n
      rw [e] at hbs
      have := congrArg List.length hbs
      simp at this
      omega
    have hl0 : l ≠ 0 := fun e => hb (List.eq_nil_of_length_eq_zero (by omega))
    obtain rfl := hg hl0
    rw [ht] at h ⊢
    obtain ⟨e1, e2⟩ := holeAt_this (C := c') (G := G) g hnd hi
    have e3 := (holeAt_this (C := C) (G := G) g hnd hi).2
    rw [e3] at h
    refine ⟨vset V n (.slice (some ⟨g, 0, none⟩) l c'), setG G n g, c', ?_⟩
    rw [e1, hcut]
    have h1 : Sat W w (sep (osl 5 1 (some ⟨g, 0, none⟩) l c' (bs.map bv)) (sep (fokrh V (cutN s.fs (filesD s.fs) keep i) none) (sep (blk p (.cells (rdC B F s) 50 (0, 0))) (sep (blk B (.cells (rowC (vset V n (.slice (some ⟨g, 0, none⟩) l c'))) 39 (0, 0))) (sep (blk F (.cells (rowC (firmV s.fs)) 3 (0, 0))) (sep emp (sep (kn K) A))))))) := by
      simpa only [holeA, sep_comm, sep_lcomm, sep_assoc] using h
    have h2 := crr_open n (d := (s.fs n).2) hl h1
    simpa only [emp_sep, sep_comm, sep_lcomm, sep_assoc] using h2
  · have e1 := holeAt_other (C := C) (G := G) g hi ht
    refine ⟨vset V n (.slice a' l c'), setG G n g, C, ?_⟩
    rw [e1, hcut, holeA_other _ _ _ _ ho]
    have h1 : Sat W w (sep (osl 5 1 a' l c' (bs.map bv)) (sep (fokrh V (cutN s.fs (filesD s.fs) keep i) (holeAt (tgt s keep flip) (filesD s.fs) i G C)) (sep (blk p (.cells (rdC B F s) 50 (0, 0))) (sep (blk B (.cells (rowC (vset V n (.slice a' l c'))) 39 (0, 0))) (sep (blk F (.cells (rowC (firmV s.fs)) 3 (0, 0))) (sep (holeA (cutN s.fs (filesD s.fs) keep i) (holeAt (tgt s keep flip) (filesD s.fs) i G C)) (sep (kn K) A))))))) := by
      simpa only [sep_comm, sep_lcomm, sep_assoc] using h
    have h2 := crr_put n ho (d := (s.fs n).2) hl h1
    simpa only [sep_comm, sep_lcomm, sep_assoc] using h2
/-! ### the second loop -/
/-- The place of the bit among the loose bytes (none: their number). -/
def flN (s : DSt) (keep : List Int) (flip : Int) : Nat := if 0 ≤ flip ∧ looseD s keep ≠ [] then flip.toNat % (8 * (looseD s keep).length) / 8 else (looseD s keep).length
def at0 (s : DSt) (keep : List Int) (flip : Int) : Int := if 0 ≤ flip ∧ looseD s keep ≠ [] then ((flip.toNat % (8 * (looseD s keep).length) : Nat) : Int) else -1
/-- The files after cnt loose bytes have been visited. -/
def fsP (s : DSt) (keep : List Int) (flip : Int) (cnt : Nat) : Nat → File := if flN s keep flip < cnt then flipL (cutD s keep).fs (looseD s keep) flip else (cutD s keep).fs
theorem fsP_zero (s : DSt) (keep : List Int) (flip : Int) : fsP s keep flip 0 = (cutD s keep).fs := by simp [fsP]
theorem fsP_end (s : DSt) (keep : List Int) (flip : Int) : fsP s keep flip (looseD s keep).length = flipL (cutD s keep).fs (looseD s keep) flip := by
  unfold fsP flN
  by_cases h : 0 ≤ flip ∧ looseD s keep ≠ []
  · rw [if_pos h, if_pos (flip_lt flip h.2)]
  · rw [if_neg h, if_neg (by omega), flipL_no h]
theorem fsP_len (s : DSt) (keep : List Int) (flip : Int) (cnt j : Nat) : (fsP s keep flip cnt j).1.length = ((cutD s keep).fs j).1.length := by
  unfold fsP; split
  · exact (flipL_len _ _ _ _).1
  · rfl
theorem fsP_next {s : DSt} {keep : List Int} {flip : Int} {cnt : Nat} (h : cnt ≠ flN s keep flip) : fsP s keep flip (cnt + 1) = fsP s keep flip cnt := by
  unfold fsP
  by_cases h1 : flN s keep flip < cnt
  · rw [if_pos h1, if_pos (by omega)]
  · rw [if_neg h1, if_neg (by omega)]
theorem at0_in {s : DSt} {keep : List Int} {flip : Int} {cnt : Nat} (hc : cnt < (looseD s keep).length) : (0 ≤ at0 s keep flip - 8 * (cnt : Int) ∧ at0 s keep flip - 8 * (cnt : Int) < 8) ↔ cnt = flN s keep flip := by
  unfold at0 flN
  by_cases h : 0 ≤ flip ∧ looseD s keep ≠ []
  · rw [if_pos h, if_pos h]; omega
  · rw [if_neg h, if_neg h]; omega
/-- At the place: the bit is in a file that is open. -/
theorem fl_here {s : DSt} {keep : List Int} {flip : Int} {cnt n j : Nat} (hc : cnt < (looseD s keep).length) (he : cnt = flN s keep flip) (hx : (looseD s keep)[cnt]? = some (n, j)) :
    tgt s keep flip = some n ∧ at0 s keep flip - 8 * (cnt : Int) = ((flip.toNat % (8 * (looseD s keep).length) % 8 : Nat) : Int) ∧
    fsP s keep flip (cnt + 1) = dset (cutD s keep).fs n (((cutD s keep).fs n).1.modify j fun x => flipB x (flip.toNat % (8 * (looseD s keep).length) % 8), ((cutD s keep).fs n).2) ∧ fsP s keep flip cnt = (cutD s keep).fs := by
  by_cases h : 0 ≤ flip ∧ looseD s keep ≠ []
  · have e1 : flN s keep flip = flip.toNat % (8 * (looseD s keep).length) / 8 := by rw [flN, if_pos h]
    have hx' := hx
    rw [he, e1] at hx'
    refine ⟨by rw [tgt, if_pos h, hx']; rfl, by rw [at0, if_pos h]; omega, ?_, ?_⟩
    · unfold fsP
      rw [if_pos (by omega), flipL_some h.1 h.2 hx']
    · unfold fsP; rw [if_neg (by omega)]
  · have e1 : flN s keep flip = (looseD s keep).length := by rw [flN, if_neg h]
    omega
theorem loose_at {fs : Nat → File} {ks : List Nat} {keep : List Int} {i n x m : Nat} (hi : ks[i]? = some n) (him : i < m) (hx : x < keptD (fs n) keep i) : (looseN fs ks keep m)[(looseN fs ks keep i).length + x]? = some (n, (fs n).2 + x) := by
  obtain ⟨r, hr⟩ := looseN_mono (fs := fs) (ks := ks) (keep := keep) (i := i + 1) (j := m) him
  rw [hr, looseN_some hi, List.append_assoc, List.getElem?_append_right (by omega), Nat.add_sub_cancel_left, List.getElem?_append_left (by simpa using hx), List.getElem?_map, List.getElem?_range hx]
  rfl
theorem loose_len {fs : Nat → File} {ks : List Nat} {keep : List Int} {i n : Nat} (hi : ks[i]? = some n) : (looseN fs ks keep (i + 1)).length = (looseN fs ks keep i).length + keptD (fs n) keep i := by
  rw [looseN_some hi]; simp
/-- What the second loop keeps after cnt loose bytes. -/
def CrS (W : World) (A : Assn) (p B F : Nat) (V : Nat → Value) (o : Hole) (s : DSt) (keep : List Int) (flip : Int) (K : Mem) (cnt : Nat) (wr : World) : Prop :=
  Sat W wr (sep (blk p (.cells (rdC B F s) 50 (0, 0))) (sep (blk B (.cells (rowC V) 39 (0, 0))) (sep (blk F (.cells (rowC (firmV s.fs)) 3 (0, 0)))
      (sep (fokrh V (cutD s keep).fs o) (sep (holeA (fsP s keep flip cnt) o) (sep (kn K) A))))))
theorem flip_firm (s : DSt) (keep : List Int) (flip : Int) : rowC (firmV (flipL (cutD s keep).fs (looseD s keep) flip)) = rowC (firmV s.fs) := by
  refine rowC_congr fun j _ => ?_
  unfold firmV
  rw [(flipL_len _ _ _ _).2, show ((cutD s keep).fs j).2 = (s.fs j).2 from cutN_2 _ _ _ _ _]
theorem CrS.done {W w : World} {A : Assn} {p B F : Nat} {V : Nat → Value} {s : DSt} {keep : List Int} {flip : Int} {K : Mem} {G : Nat → Nat} {C : Nat}
    (h : CrS W A p B F V (holeAt (tgt s keep flip) (filesD s.fs) (filesD s.fs).length G C) s keep flip K (looseD s keep).length w) :
    HardI W (sep (kn K) A) p B F V { s with fs := flipL (cutD s keep).fs (looseD s keep) flip } 0 w := by
  refine HardI.start ?_
  show Sat W w (sep (blk p (.cells (rdC B F s) 50 (0, 0))) (sep (blk B (.cells (rowC V) 39 (0, 0))) (sep (blk F (.cells (rowC (firmV (flipL (cutD s keep).fs (looseD s keep) flip))) 3 (0, 0))) (sep (fokr V (flipL (cutD s keep).fs (looseD s keep) flip)) (sep (kn K) A)))))
  rw [flip_firm]
  unfold CrS at h
  rw [fsP_end] at h
  obtain ⟨o, ho⟩ : ∃ o, o = holeAt (tgt s keep flip) (filesD s.fs) (filesD s.fs).length G C := ⟨_, rfl⟩
  rw [← ho] at h
  have h1 : Sat W w (sep (fokrh V (cutD s keep).fs o) (sep (holeA (flipL (cutD s keep).fs (looseD s keep) flip) o) (sep (blk p (.cells (rdC B F s) 50 (0, 0))) (sep (blk B (.cells (rowC V) 39 (0, 0))) (sep (blk F (.cells (rowC (firmV s.fs)) 3 (0, 0))) (sep (kn K) A)))))) := by
    simpa only [sep_comm, sep_lcomm, sep_assoc] using h
  have h2 := crr_close (fun j hj => ?_) (fun x _ => (flipL_len _ _ _ _).1) h1
  · simpa only [sep_comm, sep_lcomm, sep_assoc] using h2
  · by_cases hf : 0 ≤ flip ∧ looseD s keep ≠ []
    · have hl := flip_lt flip hf.2
      obtain ⟨⟨n, i⟩, hx⟩ : ∃ x, (looseD s keep)[flip.toNat % (8 * (looseD s keep).length) / 8]? = some x := ⟨_, List.getElem?_eq_getElem hl⟩
      rw [flipL_some hf.1 hf.2 hx]
      have ht : tgt s keep flip = some n := by rw [tgt, if_pos hf, hx]; rfl
      obtain ⟨j', hj', hk1, -⟩ := looseN_mem (List.mem_of_getElem? hx)
      have ho2 : o = some (n, G n, C) := by
        rw [ho, ht]
        show (if n ∈ (filesD s.fs).take (filesD s.fs).length then some (n, G n, C) else none) = _
        rw [List.take_of_length_le (Nat.le_refl _), if_pos (List.mem_of_getElem? hk1)]
      have := hj _ ho2
      unfold dset
      rw [if_neg this]
    · rw [flipL_no hf]
end Go.Proofs.YtdaknmcmjnbfeaaGreat
