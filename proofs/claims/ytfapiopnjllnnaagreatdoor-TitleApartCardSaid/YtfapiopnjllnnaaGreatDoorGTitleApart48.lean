/- What the walks of title's greater laws share: slices of three numbers; owners' cells; which of the lists; rows of acts that are changed place by place. -/
import Derived.Test.YtfapiopnjllnnaaGreatDoorGTitleApart46
import Derived.Test.YtfapiopnjllnnaaGreatDoorGTitleApart27
import Derived.Test.YtfapiopnjllnnaaGreatDoorGTitleApartSTi
import Derived.Laws.StructEq
import Derived.Test.YtfapiopnjllnnaaGreatDoorRows
import Derived.ProofKit
import Derived.LaidMore
import Derived.OpenShut
import Derived.Stop.Joined
namespace Go.Proofs.YtfapiopnjllnnaaGreatDoor
open Go.RowKit PA
def bsI3 (n : Nat) (p : Array (Nat × Value)) : Sem Value := Instr.buildSlice 22 n p
theorem buildSlice_i3 (n : Nat) (p : Array (Nat × Value)) : Instr.buildSlice 22 n p = bsI3 n p := rfl
theorem bs_i3 (w : World) (x y z : Int) : (bsI3 3 #[(0, .int .i64 x), (1, .int .i64 y), (2, .int .i64 z)]).run Tryz.prog w = .ok (.slice (some ⟨w.heap.size, 0, none⟩) 3 3) (w.alloc (.cells #[.int .i64 x, .int .i64 y, .int .i64 z] 3)) := by
  obtain ⟨i, h1, h2, h3, h4⟩ := info_parts infoInt
  exact run_buildSlice w 22 3 3 _ _ i _ Tryz.underlying22 h1 h2 (by rw [h3]; omega) (by rw [h3]; omega) (by rw [h3]; kernel_rfl)
theorem own_cell {W w : World} {A : Assn} {ob on oc : Nat} {own : List (Int × Rt)} (h : Sat W w (sep (osl 46 3 (some ⟨ob, 0, none⟩) on oc (ownC own)) A)) {j : Nat} {p : Int} {r : Rt} (ho : own[j]? = some (p, r)) :
    w.cell? ⟨ob, j * 3, none⟩ = some (.int .i64 p) ∧ w.cell? ⟨ob, j * 3 + 1, none⟩ = some (.int .i64 r.n) ∧ w.cell? ⟨ob, j * 3 + 2, none⟩ = some (.int .i64 r.d) := by
  have hf : ownC own = (own.map fun o => [Value.int .i64 o.1, .int .i64 o.2.n, .int .i64 o.2.d]).flatten := by unfold ownC; rw [List.flatMap_def]
  have hl : ∀ c ∈ own.map (fun o => [Value.int .i64 o.1, .int .i64 o.2.n, .int .i64 o.2.d]), c.length = 3 := by
    intro c hc
    obtain ⟨o, -, rfl⟩ := List.mem_map.1 hc
    rfl
  obtain ⟨hj, he⟩ := List.getElem?_eq_some_iff.1 ho
  have hg := fun (q : Nat) (hq : q < 3) => flatten_get _ hl j (by rw [List.length_map]; exact hj) q hq
  have hs := fun (q : Nat) (u : Value) (hu : (ownC own)[j * 3 + q]? = some u) => h.osl_settle.rsl_src (j * 3 + q) u hu
  have ea : ∀ q, (⟨ob, 0, none⟩ : Addr).add (j * 3 + q) = ⟨ob, j * 3 + q, none⟩ := fun q => by unfold Addr.add; split <;> simp_all
  have e0 := hs 0 (.int .i64 p) (by rw [hf, hg 0 (by omega), List.getElem_map, he]; rfl)
  have e1 := hs 1 (.int .i64 r.n) (by rw [hf, hg 1 (by omega), List.getElem_map, he]; rfl)
  have e2 := hs 2 (.int .i64 r.d) (by rw [hf, hg 2 (by omega), List.getElem_map, he]; rfl)
  rw [ea] at e0 e1 e2
  exact ⟨e0, e1, e2⟩
/-- Which of the three lists. -/
def Lst (L : Nat) (J : Mem) (i : Nat) (v : Value) (xs : List Ac) : Prop := (∀ w', Ext J w' → w'.cell? ⟨L, i, none⟩ = some v) ∧ ActL J v xs ∧ TL xs ∧ xs.length < 40
theorem lists_at {L : Nat} {v1 v2 v3 v4 : Value} {z2 z3 : List Ac} {l : List Int} {J : Mem} (hc : cellsAt (some ⟨L, 0, none⟩) [v1, v2, v3, v4] J) (h1 : ActL J v1 (scrP l)) (h2 : ActL J v2 z2) (h3 : ActL J v3 (z3 ++ scrP l)) (g2 : Gen18 J z2) (g3 : Gen18 J z3) (l2 : z2.length ≤ 14) (l3 : z3.length ≤ 8) :
    ∀ i, i < 3 → ∃ v xs, Lst L J i v xs := by
  obtain ⟨b, o, e, hcell⟩ := cells_ext hc (by simp)
  cases e
  have hs : (scrP l).length ≤ 14 := by rw [scrP_len]; have := scrN_le l; omega
  intro i hi
  rcases (show i = 0 ∨ i = 1 ∨ i = 2 by omega) with rfl | rfl | rfl
  · exact ⟨v1, scrP l, fun w' he => hcell w' he 0 v1 rfl, h1, scr_TL l, by omega⟩
  · exact ⟨v2, z2, fun w' he => hcell w' he 1 v2 rfl, h2, gen_TL g2 l2, by omega⟩
  · exact ⟨v3, z3 ++ scrP l, fun w' he => hcell w' he 2 v3 rfl, h3, both_TL l g3 l3, by rw [List.length_append]; omega⟩
theorem Lst.mono {L : Nat} {I J : Mem} {i : Nat} {v : Value} {xs : List Ac} (hl : Mem.le I J) (h : Lst L I i v xs) : Lst L J i v xs :=
  ⟨fun w' he => h.1 w' (fun b o hb => he b o (hl b o hb)), h.2.1.mono hl, h.2.2⟩
theorem scrP_nb {l : List Int} {x : Ac} (h : x ∈ scrP l) : 0 ≤ x.n ∧ x.n ≤ 30 := by
  unfold scrP at h
  rcases List.mem_append.1 h with h | h
  · simp only [List.mem_cons, List.not_mem_nil, or_false] at h
    rcases h with rfl | rfl
    · decide
    · decide
  · obtain ⟨i, hi, rfl⟩ := List.mem_map.1 h
    have := scrN_le l
    have := List.mem_range.1 hi
    rw [(actP_s l i).2]
    omega
theorem gen_n {I : Mem} {zl : List Ac} (h : Gen18 I zl) (hl : zl.length ≤ 14) : ∀ x ∈ zl, 0 ≤ x.n ∧ x.n ≤ 60 := by
  intro x hx
  obtain ⟨ps, h1, h2⟩ := h
  obtain ⟨i, hi, rfl⟩ := List.mem_iff_getElem.1 hx
  have := (gen_get h1 h2 (by omega) i hi).2.2.2.2.2
  omega
theorem lists_at2 {L : Nat} {v1 v2 v3 v4 : Value} {z2 z3 : List Ac} {l : List Int} {J : Mem} (hc : cellsAt (some ⟨L, 0, none⟩) [v1, v2, v3, v4] J) (h1 : ActL J v1 (scrP l)) (h2 : ActL J v2 z2) (h3 : ActL J v3 (z3 ++ scrP l)) (g2 : Gen18 J z2) (g3 : Gen18 J z3) (l2 : z2.length ≤ 14) (l3 : z3.length ≤ 8) :
    ∀ i, i < 3 → ∃ v xs, Lst L J i v xs ∧ ∀ x ∈ xs, 0 ≤ x.n ∧ x.n ≤ 60 := by
  obtain ⟨b, o, e, hcell⟩ := cells_ext hc (by simp)
  cases e
  have hs : (scrP l).length ≤ 14 := by rw [scrP_len]; have := scrN_le l; omega
  have hn : ∀ x ∈ scrP l, 0 ≤ x.n ∧ x.n ≤ 60 := fun x hx => by have := scrP_nb hx; omega
  intro i hi
  rcases (show i = 0 ∨ i = 1 ∨ i = 2 by omega) with rfl | rfl | rfl
  · exact ⟨v1, scrP l, ⟨fun w' he => hcell w' he 0 v1 rfl, h1, scr_TL l, by omega⟩, hn⟩
  · exact ⟨v2, z2, ⟨fun w' he => hcell w' he 1 v2 rfl, h2, gen_TL g2 l2, by omega⟩, gen_n g2 l2⟩
  · refine ⟨v3, z3 ++ scrP l, ⟨fun w' he => hcell w' he 2 v3 rfl, h3, both_TL l g3 l3, by rw [List.length_append]; omega⟩, fun x hx => ?_⟩
    rcases List.mem_append.1 hx with h | h
    · exact gen_n g3 (by omega) x h
    · exact hn x h
def bsI2 (n : Nat) (p : Array (Nat × Value)) : Sem Value := Instr.buildSlice 22 n p
theorem buildSlice_i2 (n : Nat) (p : Array (Nat × Value)) : Instr.buildSlice 22 n p = bsI2 n p := rfl
theorem bs_i2 (w : World) (x y : Int) : (bsI2 2 #[(0, .int .i64 x), (1, .int .i64 y)]).run Tryz.prog w = .ok (.slice (some ⟨w.heap.size, 0, none⟩) 2 2) (w.alloc (.cells #[.int .i64 x, .int .i64 y] 3)) := by
  obtain ⟨i, h1, h2, h3, h4⟩ := info_parts infoInt
  exact run_buildSlice w 22 3 2 _ _ i _ Tryz.underlying22 h1 h2 (by rw [h3]; omega) (by rw [h3]; omega) (by rw [h3]; kernel_rfl)
/-- An act of a settled list: its cells, and it is loaded whole. -/
theorem settled_act {I : Mem} {a : Option Addr} {xs : List Ac} (hc : cellsAt a (acs xs) I) (i : Nat) (hi : i < xs.length) :
    ∃ b o, a = some ⟨b, o, none⟩ ∧ ∀ w', Ext I w' → (∀ j v, xs[i].cells[j]? = some v → w'.cell? ⟨b, o + i * 19 + j, none⟩ = some v) ∧ Sem.run Tryz.prog (loadCellsFrom ⟨b, o + i * 19, none⟩ 0 kA #[]) w' = .ok xs[i].cells.toArray w' := by
  have hne : acs xs ≠ [] := fun e => by have := congrArg List.length e; rw [acs_len, List.length_nil] at this; omega
  obtain ⟨b, o, rfl, hcell⟩ := cells_ext hc hne
  refine ⟨b, o, rfl, fun w' he => ?_⟩
  have key : ∀ j v, xs[i].cells[j]? = some v → w'.cell? ⟨b, o + i * 19 + j, none⟩ = some v := fun j v hj => by
    have hjl : j < 19 := (List.getElem?_eq_some_iff.1 hj).1
    have := hcell w' he (i * 19 + j) v (by rw [acs_at xs i hi j hjl]; exact hj)
    rw [← Nat.add_assoc] at this
    exact this
  refine ⟨key, ?_⟩
  have hl : xs[i].cells.length = kA := rfl
  have := run_loadCells_list (P := Tryz.prog) w' ⟨b, o + i * 19, none⟩ xs[i].cells (fun j v hj => by
    have e : (⟨b, o + i * 19, none⟩ : Addr).add j = ⟨b, o + i * 19 + j, none⟩ := by unfold Addr.add; split <;> simp_all
    rw [e]; exact key j v hj)
  rw [hl] at this
  exact this
theorem walkL_lenz (file fday day dq : Int) : ∀ (l : List Ac) (i : Nat) (S : Shs) (s : List Hl), (walkT file fday day (evL dq) i l S s).2.length ≤ s.length + l.length
  | [], _, _, _ => by simp [walkT]
  | x :: l, i, S, s => by
    rw [walkT, List.length_cons]
    split
    · have h1 := walkL_lenz file fday day dq l (i + 1) (PA.stepT S x).1 (evL dq s i x (PA.stepT S x).2)
      have h2 : (evL dq s i x (PA.stepT S x).2).length ≤ s.length + 1 := by
        unfold evL
        split
        · simp
        · omega
      omega
    · have h1 := walkL_lenz file fday day dq l (i + 1) S s
      omega
theorem licR_len (file day : Int) (xs : List Ac) : (licR file day xs).length ≤ xs.length := by
  unfold licR
  split
  · have := walkL_lenz file ((filedT file (sortK xs)).getD Ac.zero).d day day (sortK xs) 0 (first1 ((filedT file (sortK xs)).getD Ac.zero).p) []
    unfold licT
    rw [sortK_len] at this
    simpa using this
  · simp
theorem asc_len : ∀ (l : List Int) (lo hi : Int), l.Pairwise (· < ·) → (∀ x ∈ l, lo ≤ x ∧ x < hi) → lo ≤ hi → (l.length : Int) ≤ hi - lo
  | [], lo, hi, _, _, h => by simp; omega
  | x :: l, lo, hi, hp, hb, h => by
    obtain ⟨h1, h2⟩ := List.pairwise_cons.1 hp
    have hx := hb x (List.mem_cons_self ..)
    have := asc_len l (x + 1) hi h2 (fun y hy => ⟨by have := h1 y hy; omega, (hb y (List.mem_cons_of_mem _ hy)).2⟩) (by omega)
    rw [List.length_cons]
    omega
theorem ownR_len {file day : Int} {xs : List Ac} {own : List (Int × Rt)} (hx : TOk xs) (h : OwnR file day xs own) : own.length ≤ 20000 := by
  rcases h with ⟨-, f, hf, ho⟩ | ⟨-, rfl⟩
  · have := asc_len (own.map (·.1)) 0 10001 (List.Pairwise.map _ (fun _ _ h => h) ho.asc) (fun x hx' => by
      obtain ⟨⟨p, r⟩, hm, rfl⟩ := List.mem_map.1 hx'
      have h1 := ((ho.mem p r).1 hm).1
      have := hx.sup file day f p hf (by rw [h1]; rfl)
      exact ⟨this.1, by have := this.2; omega⟩) (by omega)
    rw [List.length_map] at this
    omega
  · simp
section
variable {W w : World} {A : Assn} {g N : Nat} {f : Nat → Ac} {tl : List Value}
theorem arow_cellz (h : Sat W w (sep (arow g N f tl) A)) (i : Nat) (hi : i < N) (j : Nat) (hj : j < 19) : w.cell? ⟨g, i * 19 + j, none⟩ = (f i).cells[j]? := by
  rw [Sat.cell h, List.getElem?_toArray, List.getElem?_append_left (by rw [acs_len]; simp; omega), acs_at _ i (by simpa using hi) j hj]
  simp
theorem arow_cong {f' : Nat → Ac} (hf : ∀ k, k < N → f k = f' k) (h : Sat W w (sep (arow g N f tl) A)) : Sat W w (sep (arow g N f' tl) A) := by
  have e : (List.range N).map f = (List.range N).map f' := List.map_congr_left fun k hk => hf k (List.mem_range.1 hk)
  unfold arow at h ⊢
  rw [← e]; exact h
theorem arow_setz (h : Sat W w (sep (arow g N f tl) A)) (i : Nat) (hi : i < N) (j : Nat) (hj : j < 19) (v : Value) (y : Ac) (hy : y.cells = (f i).cells.set j v) :
    Sat W (w.setCell ⟨g, i * 19 + j, none⟩ v) (sep (arow g N (setA f i y) tl) A) := by
  have h2 := Sat.setCell h (i * 19 + j) v
  unfold arow
  rw [range_set, acs_set _ i (by simpa using hi), hy]
  obtain ⟨L, hL⟩ : ∃ L, L = (List.range N).map f := ⟨_, rfl⟩
  have hLi : i < L.length := by rw [hL]; simpa using hi
  have hLe : L[i] = f i := by subst hL; simp
  have e0 : acs L = (acs L).take (i * 19) ++ (f i).cells ++ (acs L).drop (i * 19 + 19) := by
    have := acs_set L i hLi L[i]
    rw [List.set_getElem_self] at this
    rw [hLe] at this
    exact this
  rw [← hL] at h2 ⊢
  have hlen : (acs L).length = L.length * 19 := acs_len L
  have hl1 : ((acs L).take (i * 19)).length = i * 19 := by rw [List.length_take, hlen]; omega
  have hl2 : (f i).cells.length = 19 := rfl
  have e1 : (acs L ++ tl).set (i * 19 + j) v = (acs L).take (i * 19) ++ (f i).cells.set j v ++ (acs L).drop (i * 19 + 19) ++ tl := by
    conv => lhs; rw [e0]
    rw [List.append_assoc, List.append_assoc, List.set_append_right _ _ (by rw [hl1]; omega), hl1, Nat.add_sub_cancel_left, List.set_append_left _ _ (by rw [hl2]; exact hj), List.append_assoc, List.append_assoc]
  have e2 : (acs L ++ tl).toArray.setIfInBounds (i * 19 + j) v = ((acs L).take (i * 19) ++ (f i).cells.set j v ++ (acs L).drop (i * 19 + 19) ++ tl).toArray := by
    rw [List.setIfInBounds_toArray, e1]
  rw [e2] at h2
  exact h2
/-- An owned slice of acts, said by a function; opened. -/
theorem oslF_arow {a : Option Addr} {n c : Nat} (h0 : 0 < n) (h : Sat W w (sep (osl 57 19 a n c (acs ((List.range n).map f))) A)) :
    ∃ g tl, a = some ⟨g, 0, none⟩ ∧ Hid (n ≤ c ∧ c ≤ maxLen ∧ n * 19 + tl.length = c * 19) ∧ Sat W w (sep (arow g n f tl) A) := by
  obtain ⟨g, tl, e, h1, h2, h3, h4⟩ := osl_arow (by simp) h0 h
  exact ⟨g, tl, e, Lib.hid ⟨h1, h2, h3⟩, arow_cong (fun k hk => by simp [List.getD_eq_getElem?_getD, hk]) h4⟩
end
end Go.Proofs.YtfapiopnjllnnaaGreatDoor
/- The acts of a file that count, alone: title's answers are the same, but for indices. No program in sight. -/
namespace PA
open Go Go.Proofs.YtfapiopnjllnnaaGreatDoor
def ownB (file : Int) (x : Ac) : Bool := decide (x.f = file) && (decide (x.k = 0) || decide (x.k = 16) || decide (x.k = 17))
theorem sortK_filt (p : Ac → Bool) {xs : List Ac} (hk : xs.Pairwise KeyNe) : sortK (xs.filter p) = (sortK xs).filter p :=
  (sortK_of ((sortK_perm xs).filter p) ((sortK_asc xs).filter p) (hk.filter p)).symm
theorem filed_filt (file : Int) (ys : List Ac) : filedT file (ys.filter (ownB file)) = filedT file ys := by
  unfold filedT
  rw [List.find?_filter]
  congr 1
  funext x
  unfold ownB isFiling
  by_cases h1 : x.f = file <;> by_cases h2 : x.k = 0 <;> simp [h1, h2]
theorem err_filt (file day : Int) (ys : List Ac) : titleErr file day (ys.filter (ownB file)) = titleErr file day ys := by
  unfold titleErr
  rw [filed_filt]
theorem counts_own {file fday day : Int} {x : Ac} (h : countsB file fday day x = true) : ownB file x = true := by
  unfold countsB at h
  simp only [Bool.and_eq_true, Bool.or_eq_true, decide_eq_true_eq] at h
  unfold ownB
  simp only [Bool.and_eq_true, Bool.or_eq_true, decide_eq_true_eq]
  exact ⟨h.2.1, by rcases h.2.2.2.2 with e | e; exact .inl (.inr e); exact .inr e⟩
theorem walkT_neg {σ : Type} {file fday day : Int} (ev : σ → Nat → Ac → Bool → σ) {x : Ac} (h : ¬ countsB file fday day x = true) {l : List Ac} {i : Nat} {S : Shs} {a : σ} : walkT file fday day ev i (x :: l) S a = walkT file fday day ev (i + 1) l S a := by
  conv => lhs; unfold walkT
  rw [if_neg h]
theorem walkT_filt {σ τ : Type} (file fday day : Int) (ev : σ → Nat → Ac → Bool → σ) (ev2 : τ → Nat → Ac → Bool → τ) (R : σ → τ → Prop) (hev : ∀ a b i i' x dn, R a b → R (ev a i x dn) (ev2 b i' x dn)) :
    ∀ (l : List Ac) (i i' : Nat) (S : Shs) (a : σ) (b : τ), R a b → (walkT file fday day ev i l S a).1 = (walkT file fday day ev2 i' (l.filter (ownB file)) S b).1 ∧ R (walkT file fday day ev i l S a).2 (walkT file fday day ev2 i' (l.filter (ownB file)) S b).2
  | [], _, _, _, _, _, h => ⟨rfl, h⟩
  | x :: l, i, i', S, a, b, h => by
    rw [List.filter_cons]
    by_cases hc : countsB file fday day x = true
    · rw [if_pos (counts_own hc)]
      unfold walkT
      rw [if_pos hc, if_pos hc]
      exact walkT_filt file fday day ev ev2 R hev l _ _ _ _ _ (hev _ _ _ _ _ _ h)
    · rw [walkT_neg ev hc]
      by_cases ho : ownB file x = true
      · rw [if_pos ho, walkT_neg ev2 hc]
        exact walkT_filt file fday day ev ev2 R hev l _ _ _ _ _ h
      · rw [if_neg ho]
        exact walkT_filt file fday day ev ev2 R hev l _ _ _ _ _ h
section
variable {xs : List Ac} {file : Int} (hk : xs.Pairwise KeyNe)
include hk
theorem terr_own (day : Int) : titleErr file day (sortK (xs.filter (ownB file))) = titleErr file day (sortK xs) := by rw [sortK_filt _ hk, err_filt]
theorem filed_own : filedT file (sortK (xs.filter (ownB file))) = filedT file (sortK xs) := by rw [sortK_filt _ hk, filed_filt]
theorem finT_own (day : Int) (f : Ac) : Go.Proofs.YtfapiopnjllnnaaGreatDoor.finT file day f (xs.filter (ownB file)) = Go.Proofs.YtfapiopnjllnnaaGreatDoor.finT file day f xs := by
  unfold Go.Proofs.YtfapiopnjllnnaaGreatDoor.finT
  rw [sortK_filt _ hk]
  exact (walkT_filt file f.d day _ _ (fun _ _ => True) (fun _ _ _ _ _ _ _ => trivial) (sortK xs) 0 0 (first1 f.p) () () trivial).1.symm
theorem ownR_own {day : Int} {own own' : List (Int × Rt)} (h1 : OwnR file day xs own) (h2 : OwnR file day (xs.filter (ownB file)) own') : own = own' := by
  unfold OwnR at h1 h2
  rw [terr_own hk, filed_own hk] at h2
  rcases h1 with ⟨e1, f, hf, ho⟩ | ⟨e1, rfl⟩
  · rcases h2 with ⟨-, f', hf', ho'⟩ | ⟨e2, -⟩
    · rw [hf] at hf'
      cases hf'
      rw [finT_own hk] at ho'
      exact ho.unique ho'
    · exact absurd e1 e2
  · rcases h2 with ⟨e2, -⟩ | ⟨-, rfl⟩
    · exact absurd e2 e1
    · rfl
theorem failR_own : (failR file (xs.filter (ownB file))).length = (failR file xs).length := by
  unfold failR
  rw [terr_own hk, filed_own hk]
  by_cases he : titleErr file 131072 (sortK xs) = 0
  · rw [if_pos he, if_pos he]
    unfold failT
    rw [sortK_filt _ hk]
    refine (walkT_filt file _ 131072 evF evF (fun a b => a.length = b.length) (fun a b i i' x dn e => ?_) (sortK xs) 0 0 _ [] [] rfl).2.symm
    unfold evF
    split <;> simp [e]
  · rw [if_neg he, if_neg he]
theorem licR_own (day : Int) : licR file day (xs.filter (ownB file)) = licR file day xs := by
  unfold licR
  rw [terr_own hk, filed_own hk]
  by_cases he : titleErr file day (sortK xs) = 0
  · rw [if_pos he, if_pos he]
    unfold licT
    rw [sortK_filt _ hk]
    exact (walkT_filt file _ day (evL day) (evL day) Eq (fun a b i i' x dn e => by rw [e]; rfl) (sortK xs) 0 0 _ [] [] rfl).2.symm
  · rw [if_neg he, if_neg he]
theorem doneT_own (day : Int) (f : Ac) : (doneT file day f (xs.filter (ownB file))).map (·.2) = (doneT file day f xs).map (·.2) := by
  unfold doneT
  rw [sortK_filt _ hk]
  refine (walkT_filt file f.d day evD evD (fun a b => a.map (·.2) = b.map (·.2)) (fun a b i i' x dn e => ?_) (sortK xs) 0 0 (first1 f.p) [] [] rfl).2.symm
  unfold evD
  split <;> simp [e]
theorem chainT_own (day party : Int) (f : Ac) : (chainT file day party f (xs.filter (ownB file))).length = (chainT file day party f xs).length := by
  unfold chainT
  rw [List.length_reverse, List.length_reverse]
  have key : ∀ (a b : List (Nat × Ac)) (p q : (Int → Bool) × List Int), a.map (·.2) = b.map (·.2) → p.1 = q.1 → p.2.length = q.2.length → (a.foldl chS p).2.length = (b.foldl chS q).2.length := by
    intro a
    induction a with
    | nil => intro b p q h h1 h2; cases b with
      | nil => exact h2
      | cons _ _ => cases h
    | cons x a ih =>
      intro b p q h h1 h2
      cases b with
      | nil => cases h
      | cons y b =>
        simp only [List.map_cons, List.cons.injEq] at h
        rw [List.foldl_cons, List.foldl_cons]
        refine ih b _ _ h.2 ?_ ?_
        · unfold chS
          rw [h.1, h1]
          split <;> simp [h1]
        · unfold chS
          rw [h.1, h1]
          split <;> simp [h2]
  exact key _ _ _ _ (by rw [List.map_reverse, List.map_reverse, doneT_own hk]) rfl rfl
theorem chn_own (day party : Int) : (chnR file day party (xs.filter (ownB file))).length = (chnR file day party xs).length ∧ chnE file day party (xs.filter (ownB file)) = chnE file day party xs := by
  have hno : chnNo file day party (xs.filter (ownB file)) ↔ chnNo file day party xs := by
    unfold chnNo
    rw [filed_own hk, finT_own hk]
  have hc : (chainT file day party ((filedT file (sortK (xs.filter (ownB file)))).getD Ac.zero) (xs.filter (ownB file))).length = (chainT file day party ((filedT file (sortK xs)).getD Ac.zero) xs).length := by
    rw [filed_own hk, chainT_own hk]
  have ht := terr_own hk (file := file) day
  by_cases e1 : titleErr file day (sortK xs) ≠ 0
  · have e2 : titleErr file day (sortK (xs.filter (ownB file))) ≠ 0 := by rw [ht]; exact e1
    refine ⟨?_, ?_⟩
    · unfold chnR; rw [if_pos e2, if_pos e1]
    · unfold chnE; rw [if_pos e2, if_pos e1, ht]
  · have e2 : ¬ titleErr file day (sortK (xs.filter (ownB file))) ≠ 0 := by rw [ht]; exact e1
    by_cases hp : chnNo file day party xs
    · refine ⟨?_, ?_⟩
      · unfold chnR; rw [if_neg e2, if_neg e1, if_pos hp, if_pos (hno.2 hp)]
      · unfold chnE; rw [if_neg e2, if_neg e1, if_pos hp, if_pos (hno.2 hp)]
    · refine ⟨?_, ?_⟩
      · unfold chnR; rw [if_neg e2, if_neg e1, if_neg hp, if_neg (fun q => hp (hno.1 q)), hc]
      · unfold chnE; rw [if_neg e2, if_neg e1, if_neg hp, if_neg (fun q => hp (hno.1 q))]
end
theorem TL.own {xs : List Ac} (h : TL xs) (file : Int) : TL (xs.filter (ownB file)) :=
  ⟨fun x hx => h.all x (List.mem_filter.1 hx).1, h.key.filter _, by
    have : (filsP (xs.filter (ownB file))).Sublist (filsP xs) := by
      unfold filsP
      exact (List.Sublist.filter _ List.filter_sublist).map _
    exact h.fil.sublist this⟩
end PA
/- The seat's variable 'fields', out of the condition that lists it: nothing of it is used. -/
namespace Go.Proofs.YtfapiopnjllnnaaGreatDoor
open Go.ChangeShapes Go.WideShapes Go.ChangeAt Go.RowKit
def laidQ : List (String × DataW Unit) := [("priorart/acts.fields", Rows.laid_priorart_acts_fields)]
theorem door_met (os : Os) (args : Array Value) : laidMetH Tryz.prog laidQ ((World.doorLaid Tryz.prog 14 os).forCall (fun _ _ => 0) ⟨#[], args, []⟩).memory :=
  laidMetH_of_parts3 (fuel := 8) (laidMet_of_run' 8 (by kernel_rfl) (by kernel_rfl)) (by kernel_rfl) (by kernel_rfl)
def WholeOK (_ : World) : Prop := True
theorem of_laid {W : World} (_ : laidMetH Tryz.prog laidQ W) : WholeOK W := trivial
end Go.Proofs.YtfapiopnjllnnaaGreatDoor
