/- The reference's Interval. -/
import Derived.Test.YtodipneapffjdaaGreatDoorGActsSort5
import Derived.Test.YtodipneapffjdaaGreatDoorGActsSortSVg
import Derived.Great.BuildSlice
namespace PA
open Go Go.RowKit
def oneI (b : Bool) : Int := if b = true then 1 else 0
def ivInts (x : Iv) : List Int := [x.ln, x.ld, x.hn, x.hd, oneI x.lo, oneI x.ho, oneI x.li, oneI x.hi]
def I64v (n : Int) : Prop := -9223372036854775808 ≤ n ∧ n ≤ 9223372036854775807
theorem oneI_64 (b : Bool) : I64v (oneI b) := by cases b <;> exact ⟨by decide, by decide⟩
end PA
namespace Go.Proofs.YtodipneapffjdaaGreatDoor
open Go.RowKit PA
theorem r07one_spec (b : Bool) (w : World) : Calls Tryz.prog 109 #[.bool b] w fun e w' => e = .returned (.int .i64 (oneI b)) ∧ w = w' := by
  cases b with
  | false =>
    go_enter Tryz.func109, Tryz.ntmps109
    go_wp2
    go_ret
    exact ⟨rfl, rfl⟩
  | true =>
    go_enter Tryz.func109, Tryz.ntmps109
    go_wp2
    go_ret
    exact ⟨rfl, rfl⟩
theorem infoIntY : (Tryz.prog.info? 3).map (fun i => (i.zero, i.size, i.bytes)) = some (some (.int .i64 0), 1, 8) := by kernel_rfl
def bsI8y (n : Nat) (p : Array (Nat × Value)) : Sem Value := Instr.buildSlice 22 n p
theorem buildSlice_i8y (n : Nat) (p : Array (Nat × Value)) : Instr.buildSlice 22 n p = bsI8y n p := rfl
theorem bs_i8y (w : World) (a b c d e f g h : Int) : (bsI8y 8 #[(0, .int .i64 a), (1, .int .i64 b), (2, .int .i64 c), (3, .int .i64 d), (4, .int .i64 e), (5, .int .i64 f), (6, .int .i64 g), (7, .int .i64 h)]).run Tryz.prog w = .ok (.slice (some ⟨w.heap.size, 0, none⟩) 8 8) (w.alloc (.cells #[.int .i64 a, .int .i64 b, .int .i64 c, .int .i64 d, .int .i64 e, .int .i64 f, .int .i64 g, .int .i64 h] 3)) := by
  obtain ⟨i, h1, h2, h3, h4⟩ := info_parts infoIntY
  exact run_buildSlice w 22 3 8 _ _ i _ Tryz.underlying22 h1 h2 (by rw [h3]; omega) (by rw [h3]; omega) (by rw [h3]; kernel_rfl)
attribute [local go_sem ↓] buildSlice_i8y
set_option maxHeartbeats 2000000 in
theorem rinterval_spec {W w : World} {A : Assn} (x : Iv) (h64 : ∀ r ∈ ivInts x, -9223372036854775808 ≤ r ∧ r ≤ 9223372036854775807) (h : Sat W w A) :
    Calls Tryz.prog 86 #[.agg (ivC x)] w fun e w' => ∃ a c, e = .returned (.slice a (encIs (ivInts x)).length c) ∧ Sat W w' (sep (osl 5 1 a (encIs (ivInts x)).length c ((encIs (ivInts x)).map bv)) A) := by
  obtain ⟨E, hE⟩ : ∃ E, E = encIs (ivInts x) := ⟨_, rfl⟩
  rw [← hE]
  obtain ⟨ln, ld, hn, hd, lo, ho, li, hi⟩ := x
  have h1 := h.alloc (.cells #[.int .i64 ln, .int .i64 ld, .int .i64 hn, .int .i64 hd, .bool lo, .bool ho, .bool li, .bool hi] 102)
  obtain ⟨B, hB⟩ : ∃ B, B = w.heap.size := ⟨_, rfl⟩
  obtain ⟨w1, hw1⟩ : ∃ y, y = w.alloc (.cells #[.int .i64 ln, .int .i64 ld, .int .i64 hn, .int .i64 hd, .bool lo, .bool ho, .bool li, .bool hi] 102) := ⟨_, rfl⟩
  rw [← hB, ← hw1] at h1
  have HB := Lib.hid (And.intro hB hw1)
  have h2 := h1.drew
  obtain ⟨wd, hwd⟩ : ∃ y, y = w1.drew := ⟨_, rfl⟩
  rw [← hwd] at h2
  have HW := Lib.hid hwd
  have HE := Lib.hid hE
  have H64 := Lib.hid h64
  have c0 : wd.cell? ⟨B, 0, none⟩ = some (.int .i64 ln) := by rw [h2.cell 0]; rfl
  have c1 : wd.cell? ⟨B, 1, none⟩ = some (.int .i64 ld) := by rw [h2.cell 1]; rfl
  have c2 : wd.cell? ⟨B, 2, none⟩ = some (.int .i64 hn) := by rw [h2.cell 2]; rfl
  have c3 : wd.cell? ⟨B, 3, none⟩ = some (.int .i64 hd) := by rw [h2.cell 3]; rfl
  have c4 : wd.cell? ⟨B, 4, none⟩ = some (.bool lo) := by rw [h2.cell 4]; rfl
  have c5 : wd.cell? ⟨B, 5, none⟩ = some (.bool ho) := by rw [h2.cell 5]; rfl
  have c6 : wd.cell? ⟨B, 6, none⟩ = some (.bool li) := by rw [h2.cell 6]; rfl
  have c7 : wd.cell? ⟨B, 7, none⟩ = some (.bool hi) := by rw [h2.cell 7]; rfl
  have H2 := Lib.hid h2.drop
  clear h h1 h2 hB hw1 hwd hE h64
  unfold ivC
  go_enter Tryz.func86, Tryz.ntmps86
  go_upto_region 1 with (fail)
  rw [← HB.out.1, ← HB.out.2]
  refine wp_region_canon rfl (fun w' => w'.cell? ⟨B, 0, none⟩ = some (.int .i64 ln) ∧ w'.cell? ⟨B, 1, none⟩ = some (.int .i64 ld) ∧ w'.cell? ⟨B, 2, none⟩ = some (.int .i64 hn) ∧ w'.cell? ⟨B, 3, none⟩ = some (.int .i64 hd) ∧ w'.cell? ⟨B, 4, none⟩ = some (.bool lo) ∧ w'.cell? ⟨B, 5, none⟩ = some (.bool ho) ∧ w'.cell? ⟨B, 6, none⟩ = some (.bool li) ∧ w'.cell? ⟨B, 7, none⟩ = some (.bool hi)) [(0, .p), (1, .p), (2, .s), (3, .p), (4, .p), (5, .s), (6, .p), (7, .p), (8, .s), (9, .p), (10, .p), (11, .s), (12, .p), (13, .t), (15, .p), (16, .s), (18, .p), (19, .s), (21, .p), (22, .s), (14, .e true), (17, .e true), (20, .e true), (23, .e true), (24, .e false), (25, .e false), (26, .p)] (by kernel_rfl) ?_
  rw [← HW.out]
  have hS0 := And.intro c0 (And.intro c1 (And.intro c2 (And.intro c3 (And.intro c4 (And.intro c5 (And.intro c6 c7))))))
  (repeat ((first | (refine C_p (v := ?_) rfl rfl (fun w' => ?_) ?_; rotate_left; (go_simp; with_reducible rfl)) | (refine C_s (v := ?_) rfl rfl hS0 (fun w' hS => ?_) ?_; rotate_left; ((try dsimp only at hS); go_simp; with_reducible rfl)) | (refine C_t (v := ?_) rfl rfl ?_ ?_; rotate_left; (go_simp; with_reducible rfl)) | (refine C_po rfl rfl ?_) | (refine C_so rfl rfl hS0 ?_) | (refine C_to rfl rfl ?_)); simp only [Act.put, List.setIfInBounds_toArray, List.set_cons_zero, List.set_cons_succ]))
  (refine C_e rfl rfl (fun K hK => ?_); go_simp)
  refine (r07one_spec _ _).mono ?_
  rintro e w2 ⟨rfl, rfl⟩
  (refine hK _ _ (fun _ => hS0) ?_; clear hK K; (try simp only [Act.put, List.setIfInBounds_toArray, List.set_cons_zero, List.set_cons_succ]))
  (refine C_e rfl rfl (fun K hK => ?_); go_simp)
  refine (r07one_spec _ _).mono ?_
  rintro e w2 ⟨rfl, rfl⟩
  (refine hK _ _ (fun _ => hS0) ?_; clear hK K; (try simp only [Act.put, List.setIfInBounds_toArray, List.set_cons_zero, List.set_cons_succ]))
  (refine C_e rfl rfl (fun K hK => ?_); go_simp)
  refine (r07one_spec _ _).mono ?_
  rintro e w2 ⟨rfl, rfl⟩
  (refine hK _ _ (fun _ => hS0) ?_; clear hK K; (try simp only [Act.put, List.setIfInBounds_toArray, List.set_cons_zero, List.set_cons_succ]))
  (refine C_e rfl rfl (fun K hK => ?_); go_simp)
  refine (r07one_spec _ _).mono ?_
  rintro e w2 ⟨rfl, rfl⟩
  (refine hK _ _ (fun _ => hS0) ?_; clear hK K; (try simp only [Act.put, List.setIfInBounds_toArray, List.set_cons_zero, List.set_cons_succ]))
  have hbs := bs_i8y wd ln ld hn hd (oneI lo) (oneI ho) (oneI li) (oneI hi)
  have hA := H2.out.alloc (.cells #[.int .i64 ln, .int .i64 ld, .int .i64 hn, .int .i64 hd, .int .i64 (oneI lo), .int .i64 (oneI ho), .int .i64 (oneI li), .int .i64 (oneI hi)] 3)
  obtain ⟨G, hG⟩ : ∃ G, G = wd.heap.size := ⟨_, rfl⟩
  obtain ⟨we, hwe⟩ : ∃ y, y = wd.alloc (.cells #[.int .i64 ln, .int .i64 ld, .int .i64 hn, .int .i64 hd, .int .i64 (oneI lo), .int .i64 (oneI ho), .int .i64 (oneI li), .int .i64 (oneI hi)] 3) := ⟨_, rfl⟩
  rw [← hG, ← hwe] at hbs hA
  have hcall := rints_spec (some ⟨G, 0, none⟩) 8 8 (ivInts ⟨ln, ld, hn, hd, lo, ho, li, hi⟩) rfl (by simp [ivInts]) H64.out (fun w' B' hs k r hr => ⟨G, 0, rfl, by
    have hc := hs.p1.cell k
    rw [Nat.zero_add, hc]
    match k, hr with
    | 0, hr | 1, hr | 2, hr | 3, hr | 4, hr | 5, hr | 6, hr | 7, hr => simp [ivInts] at hr; subst hr; rfl
    | k + 8, hr => simp [ivInts] at hr⟩) hA
  rw [← HE.out] at hcall
  have HC := Lib.hid hcall
  clear hA hcall hG hwe c0 c1 c2 c3 c4 c5 c6 c7 H2 hS0
  (refine C_e rfl rfl (fun K hK => ?_); go_simp)
  (refine hK _ _ (fun h => by cases h) ?_; clear hK K; (try simp only [Act.put, List.setIfInBounds_toArray, List.set_cons_zero, List.set_cons_succ]))
  (refine C_e rfl rfl (fun K hK => ?_); go_simp)
  refine HC.out.mono ?_
  rintro e w3 ⟨a, c, rfl, h3⟩
  have H3 := Lib.hid h3.p1.drop
  clear h3 HC
  (refine hK _ _ (fun h => by cases h) ?_; clear hK K; (try simp only [Act.put, List.setIfInBounds_toArray, List.set_cons_zero, List.set_cons_succ]))
  (repeat ((first | (refine C_p (v := ?_) rfl rfl (fun w' => ?_) ?_; rotate_left; (go_simp; with_reducible rfl)) | (refine C_s (v := ?_) rfl rfl hS0 (fun w' hS => ?_) ?_; rotate_left; ((try dsimp only at hS); go_simp; with_reducible rfl)) | (refine C_t (v := ?_) rfl rfl ?_ ?_; rotate_left; (go_simp; with_reducible rfl)) | (refine C_po rfl rfl ?_) | (refine C_so rfl rfl hS0 ?_) | (refine C_to rfl rfl ?_)); simp only [Act.put, List.setIfInBounds_toArray, List.set_cons_zero, List.set_cons_succ]))
  refine C_nil ?_
  go_wp2
  go_ret
  exact ⟨a, c, rfl, H3.out⟩
end Go.Proofs.YtodipneapffjdaaGreatDoor
/- The reference's Bytes of a formula. -/
namespace PA
open Go Go.RowKit
def encIvs (l : List Iv) : List UInt8 := (l.map fun x => encIs (ivInts x)).flatten
mutual
def encFm : Fm → List UInt8
  | .mk o n i k => PA.encI o ++ PA.encI n ++ PA.encI i.length ++ encIvs i ++ PA.encI k.length ++ encFms k
def encFms : List Fm → List UInt8
  | [] => []
  | f :: l => encFm f ++ encFms l
end
theorem encFms_snoc (l : List Fm) (f : Fm) : encFms (l ++ [f]) = encFms l ++ encFm f := by
  induction l with
  | nil => simp [encFms]
  | cons g l ih => rw [List.cons_append, encFms, encFms, ih, List.append_assoc]
theorem encFms_take {l : List Fm} {j : Nat} {g : Fm} (h : l[j]? = some g) : encFms (l.take (j + 1)) = encFms (l.take j) ++ encFm g := by
  rw [List.take_add_one, h]; exact encFms_snoc _ _
theorem encFms_le (l : List Fm) (j : Nat) : (encFms (l.take j)).length ≤ (encFms l).length := by
  induction l generalizing j with
  | nil => simp
  | cons g l ih =>
    cases j with
    | zero => simp [encFms]
    | succ j => rw [List.take_succ_cons, encFms, encFms, List.length_append, List.length_append]; have := ih j; omega
theorem encIvs_take {l : List Iv} {j : Nat} {g : Iv} (h : l[j]? = some g) : encIvs (l.take (j + 1)) = encIvs (l.take j) ++ encIs (ivInts g) := by
  unfold encIvs; rw [List.take_add_one, h]; simp
theorem encIvs_le (l : List Iv) (j : Nat) : (encIvs (l.take j)).length ≤ (encIvs l).length := by
  induction l generalizing j with
  | nil => simp
  | cons g l ih =>
    cases j with
    | zero => simp [encIvs]
    | succ j =>
      have := ih j
      unfold encIvs at this ⊢
      rw [List.take_succ_cons, List.map_cons, List.map_cons, List.flatten_cons, List.flatten_cons, List.length_append, List.length_append]; omega
mutual
/-- All numbers fit. -/
def Fm.n64 : Fm → Prop
  | .mk o n i k => I64v o ∧ I64v n ∧ (∀ x ∈ i, ∀ r ∈ PA.ivInts x, -9223372036854775808 ≤ r ∧ r ≤ 9223372036854775807) ∧ Fm.n64s k
def Fm.n64s : List Fm → Prop
  | [] => True
  | f :: l => Fm.n64 f ∧ Fm.n64s l
end
theorem Fm.n64s_mem {l : List Fm} (h : Fm.n64s l) {f : Fm} (hf : f ∈ l) : Fm.n64 f := by
  induction l with
  | nil => cases hf
  | cons g l ih =>
    rw [Fm.n64s] at h
    rcases List.mem_cons.1 hf with rfl | hf
    · exact h.1
    · exact ih h.2 hf
end PA
