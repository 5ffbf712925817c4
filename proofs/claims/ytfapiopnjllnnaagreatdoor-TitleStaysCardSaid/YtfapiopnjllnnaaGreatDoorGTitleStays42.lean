/- Package title in plain, further: shares of known parties; the example of the section. -/
import Derived.Test.YtfapiopnjllnnaaGreatDoorGTitleStaysSTb
namespace PA
open Go
def ShSup (S : Shs) : Prop := ∀ k, (S k).isSome = true → 0 ≤ k ∧ k < (10001 : Nat)
def Known (x : Ac) : Prop := (0 ≤ x.p ∧ x.p < (10001 : Nat)) ∧ 0 ≤ x.q ∧ x.q < (10001 : Nat)
theorem ShSup.first {p : Int} (h : 0 ≤ p ∧ p < (10001 : Nat)) : ShSup (first1 p) := by
  intro k hk
  unfold first1 setSh at hk
  split at hk
  · rename_i e; rw [e]; exact h
  · cases hk
theorem ShSup.set {S : Shs} (h : ShSup S) {p : Int} (hp : 0 ≤ p ∧ p < (10001 : Nat)) (r : Rt) : ShSup (setSh S p r) := by
  intro k hk
  unfold setSh at hk
  split at hk
  · rename_i e; rw [e]; exact hp
  · exact h k hk
theorem stepT_sup {S : Shs} (h : ShSup S) (x : Ac) (hx : x.k = 16 → Known x) : ShSup (PA.stepT S x).1 := by
  unfold PA.stepT
  split
  · rename_i e
    unfold moveP
    split
    · exact h
    · split
      · exact h
      · exact (h.set (hx e).1 _).set (hx e).2 _
  · exact h
theorem walkT_sup {σ : Type} (file fday day : Int) (ev : σ → Nat → Ac → Bool → σ) : ∀ (l : List Ac) (i : Nat) (S : Shs) (s : σ), ShSup S → (∀ x ∈ l, x.k = 16 → Known x) → ShSup (walkT file fday day ev i l S s).1
  | [], _, _, _, h, _ => h
  | x :: l, i, S, s, h, hl => by
    unfold walkT
    split
    · exact walkT_sup file fday day ev l _ _ _ (stepT_sup h x (hl x (by simp))) fun y hy => hl y (by simp [hy])
    · exact walkT_sup file fday day ev l _ _ _ h fun y hy => hl y (by simp [hy])
def acNum (k d n f p q : Int) (r : Rt) : Ac := ⟨k, d, n, f, 0, p, q, 0, 0, r.n, r.d, Sv.none, Sv.none, Sv.none, Sv.none, 0, 0, Sv.none, Sv.none⟩
def exA : Ac := acNum 0 10 0 4 1 (-1) ⟨0, 0⟩
def exB : Ac := acNum 16 20 1 4 1 2 ⟨1, 3⟩
def exC : Ac := acNum 16 30 2 4 2 3 ⟨1, 2⟩
def exL : List Ac := [exA, exB, exC]
def exS : Shs := setSh (setSh (first1 1) 1 ⟨2, 3⟩) 2 ⟨1, 3⟩
def exW : List (Int × Rt) := [(1, ⟨2, 3⟩), (2, ⟨1, 3⟩)]
end PA
namespace Go.Proofs.YtfapiopnjllnnaaGreatDoor
open PA
theorem exL_key : exL.Pairwise KeyNe := by
  unfold exL KeyNe
  simp [exA, exB, exC, acNum]
theorem exL_asc : Asc cmpK exL := by
  unfold exL Asc
  simp [exA, exB, exC, acNum, cmpK]
theorem exL_sort : sortK exL = exL := (sortK_of (.refl _) exL_asc exL_key).symm
theorem exL_fine : ActsFine exL := by
  intro x hx hk
  simp only [exL, List.mem_cons, List.not_mem_nil, or_false] at hx
  rcases hx with rfl | rfl | rfl
  · exact absurd hk (by decide)
  · exact ⟨by decide, by decide⟩
  · exact ⟨by decide, by decide⟩
theorem exL_known : ∀ x ∈ exL, x.k = 16 → Known x := by
  intro x hx hk
  simp only [exL, List.mem_cons, List.not_mem_nil, or_false] at hx
  rcases hx with rfl | rfl | rfl
  · exact absurd hk (by decide)
  · unfold Known; decide
  · unfold Known; decide
theorem exL_filed : filedT 4 (sortK exL) = some exA := by rw [exL_sort]; rfl
theorem exS_25 : finT 4 25 exA exL = exS := by
  unfold finT
  rw [exL_sort]
  rfl
theorem exS_40 : finT 4 40 exA exL = exS := by
  unfold finT
  rw [exL_sort]
  rfl
theorem exF : failT 4 exA exL = [2] := by
  unfold failT
  rw [exL_sort]
  rfl
theorem exW_of : OwnOf exS exW := by
  refine ⟨by simp [exW], fun p r => ?_⟩
  unfold exS first1 setSh exW
  by_cases h2 : p = 2
  · subst h2
    simp
    constructor
    · rintro rfl; exact ⟨rfl, by decide⟩
    · rintro ⟨h, -⟩; exact h.symm
  · by_cases h1 : p = 1
    · subst h1
      simp
      constructor
      · rintro rfl; exact ⟨rfl, by decide⟩
      · rintro ⟨h, -⟩; exact h.symm
    · simp [h1, h2]
theorem exErr (day : Int) (h : 10 ≤ day) (h2 : day ≤ 131072) : titleErr 4 day (sortK exL) = 0 := by
  unfold titleErr
  rw [exL_filed, if_neg (by omega)]
  show (if day < 10 then 7 else 0) = 0
  rw [if_neg (by omega)]
theorem exSup (day : Int) : ∀ k, (finT 4 day exA exL k).isSome = true → 0 ≤ k ∧ k < (10001 : Nat) := by
  unfold finT
  rw [exL_sort]
  exact walkT_sup _ _ _ _ _ _ _ _ (ShSup.first (by decide)) exL_known
end Go.Proofs.YtfapiopnjllnnaaGreatDoor
/- Title: the example of the section. -/
namespace Go.Proofs.YtfapiopnjllnnaaGreatDoor
open Go.RowKit PA
theorem cells_imm {J : Mem} {g : Nat} {xs : List Value} {t : TypeId} (h : J g = some (.cells xs.toArray t (0, 0))) : cellsAt (some ⟨g, 0, none⟩) xs J :=
  .inr ⟨g, 0, _, _, _, rfl, h, fun i u hu => by rw [Nat.zero_add]; simpa using hu⟩
set_option maxRecDepth 100000 in
set_option maxHeartbeats 4000000 in
theorem lives25_spec {W w : World} {A : Assn} (h : Sat W w A) :
    Calls Tryz.prog 20 #[] w fun e w' => e = .returned (.bool true) ∧ Sat W w' A := by
  obtain ⟨I, hk⟩ := h.know
  obtain ⟨J, hle, hJ, h1⟩ := (hk.alloc (.cells (acs exL).toArray 57)).settle.learn
  obtain ⟨B, hB⟩ : ∃ B, B = w.heap.size := ⟨_, rfl⟩
  obtain ⟨w1, hw1⟩ : ∃ w1, w1 = w.alloc (.cells (acs exL).toArray 57) := ⟨_, rfl⟩
  have hsz : w1.heap.size = B + 1 := by rw [hw1, World.size_alloc, hB]
  rw [← hB] at hJ
  rw [← hw1] at h1
  have h2 := lit_oslT (E := 91) (k := 3) h1 (ownC exW) 2 rfl (by unfold maxLen; omega)
  obtain ⟨w2, hw2⟩ : ∃ w2, w2 = w1.alloc (.cells (ownC exW).toArray 91) := ⟨_, rfl⟩
  rw [← hw2, hsz] at h2
  have hc := cells_imm hJ
  have hsw : Swf (some (⟨B, 0, none⟩ : Addr)) 3 3 := ⟨Nat.le_refl _, by unfold maxLen; omega, fun e => by cases e⟩
  have HO1 := Lib.hid (owners_ok 4 25 exA ⟨B, 0, none⟩ 3 3 exL rfl (by omega) (by omega) exL_key exL_fine hsw hc exL_filed (exErr 25 (by omega) (by omega)) (exSup 25) h2.p1)
  have HB := Lib.hid hB
  have HW1 := Lib.hid hw1
  have HW2 := Lib.hid hw2
  have HSZ := Lib.hid hsz
  have HC := Lib.hid (And.intro hc hsw)
  clear h hk hle hJ h1 hB hw1 h2 hw2 hc hsw hsz
  go_enter Tryz.func20, Tryz.ntmps20
  go_upto_region 2 with (fail)
  rw [← HB.out]
  change Code.wp _ _ _ _ (w.alloc (.cells (acs exL).toArray 57))
  rw [← HW1.out]
  go_upto_region 3 with (fail)
  rw [HSZ.out]
  change Code.wp _ _ _ _ (w1.alloc (.cells (ownC exW).toArray 91))
  rw [← HW2.out]
  clear HB HW1 HW2 HSZ
  go_wp2_with fail
  refine HO1.out.mono ?_
  rintro e w3 ⟨own, a3, c3, J3, rfl, ho, hle3, h3⟩
  rw [exS_25] at ho
  obtain rfl := ho.unique exW_of
  have HO2 := Lib.hid (owners_ok 4 40 exA ⟨B, 0, none⟩ 3 3 exL rfl (by omega) (by omega) exL_key exL_fine HC.out.2 (cellsAt_mono hle3 HC.out.1) exL_filed (exErr 40 (by omega) (by omega)) (exSup 40) h3.p1)
  have HLE3 := Lib.hid hle3
  clear HO1 ho h3 hle3
  go_wp2_with fail
  refine HO2.out.mono ?_
  rintro e w4 ⟨own, a5, c5, J5, rfl, ho, hle5, h5⟩
  rw [exS_40] at ho
  obtain rfl := ho.unique exW_of
  have HF := Lib.hid (failed_ok 4 exA ⟨B, 0, none⟩ 3 3 exL rfl (by omega) (by omega) exL_key exL_fine HC.out.2 (cellsAt_mono (Mem.le_trans HLE3.out hle5) HC.out.1) exL_filed (exErr 131072 (by omega) (by omega)) h5.p1)
  clear HO2 ho h5 hle5
  go_wp2_with fail
  refine HF.out.mono ?_
  rintro e w5 ⟨a7, c7, J7, rfl, -, h7⟩
  rw [exF] at h7 ⊢
  have h8 : Sat W w5 (sep (osl 46 3 a3 2 c3 (ownC exW)) (sep (osl 91 3 (some ⟨B + 1, 0, none⟩) 2 2 (ownC exW)) (sep (osl 46 3 a5 2 c5 (ownC exW)) (sep (osl 3 1 a7 1 c7 ([2].map iv)) A)))) := by
    have := h7.p1.drop
    have h9 : Sat W w5 (sep (osl 3 1 a7 1 c7 ([2].map iv)) (sep (osl 46 3 a5 2 c5 (ownC exW)) (sep (osl 46 3 a3 2 c3 (ownC exW)) (sep (osl 91 3 (some ⟨B + 1, 0, none⟩) 2 2 (ownC exW)) A)))) := this
    simpa only [sep_comm, sep_lcomm, sep_assoc] using h9
  have HP1 := Lib.hid (plain_spec a3 2 c3 exW rfl (by omega) h8)
  clear HF h7 h8
  go_wp2_with fail
  refine HP1.out.mono ?_
  rintro e w6 ⟨a9, c9, rfl, h9⟩
  have HS1 := Lib.hid (sameOwners_spec a9 (some ⟨B + 1, 0, none⟩) 2 2 c9 2 exW exW rfl rfl (by omega) (by omega) h9.p2.p1)
  clear HP1 h9
  go_wp2_with fail
  refine HS1.out.mono ?_
  rintro e w7 ⟨rfl, h10⟩
  have HP2 := Lib.hid (plain_spec a5 2 c5 exW rfl (by omega) h10.p3)
  have hdt : decide (exW = exW) = true := decide_eq_true rfl
  clear HS1 h10
  go_wp2_with fail
  refine HP2.out.mono ?_
  rintro e w8 ⟨a11, c11, rfl, h11⟩
  have HS2 := Lib.hid (sameOwners_spec a11 (some ⟨B + 1, 0, none⟩) 2 2 c11 2 exW exW rfl rfl (by omega) (by omega) h11.p3.p1)
  clear HP2 h11
  go_wp2_with fail
  refine HS2.out.mono ?_
  rintro e w9 ⟨rfl, h12⟩
  have h13 := h12.drop.drop.drop.drop.drop
  have h14 := lit_oslT (E := 3) (k := 1) h13 ([2].map iv) 1 rfl (by unfold maxLen; omega)
  have HSI := Lib.hid (sameIntsT_sat a7 (some ⟨w9.heap.size, 0, none⟩) c7 1 [2] [2] (h14.p1))
  clear HS2 h12 h13 h14
  go_wp2_with fail
  refine HSI.out.mono ?_
  rintro e w10 ⟨rfl, h15⟩
  have H15 := Lib.hid h15
  clear h15 HSI
  go_wp2
  go_ret
  exact ⟨rfl, H15.out⟩
end Go.Proofs.YtfapiopnjllnnaaGreatDoor
