/- Package title in plain, further: shares of known parties; the example of the section. -/
import Derived.Test.YtfapiopnjllnnaaGreatDoorGTitleChainSTb
import Derived.Test.YtfapiopnjllnnaaGreatDoorKn
import Derived.Test.YtfapiopnjllnnaaGreatDoorGTitleChain28
namespace PA
open Go
def ShSup (S : Shs) : Prop := ∀ k, (S k).isSome = true → 0 ≤ k ∧ k < (10001 : Nat)
def Known (x : Ac) : Prop := (0 ≤ x.p ∧ x.p < (10001 : Nat)) ∧ 0 ≤ x.q ∧ x.q < (10001 : Nat)
theorem ShSup.first {p : Int} (h : 0 ≤ p ∧ p < (10001 : Nat)) : ShSup (first1 p) := by
  intro k hk
  unfold first1 setSh at hk
  split at hk
  · rename_i e; rw [e]; exact h
  · cases hk
theorem ShSup.set {S : Shs} (h : ShSup S) {p : Int} (hp : 0 ≤ p ∧ p < (10001 : Nat)) (r : Rt) : ShSup (setSh S p r) := by
  intro k hk
  unfold setSh at hk
  split at hk
  · rename_i e; rw [e]; exact hp
  · exact h k hk
theorem stepT_sup {S : Shs} (h : ShSup S) (x : Ac) (hx : x.k = 16 → Known x) : ShSup (PA.stepT S x).1 := by
  unfold PA.stepT
  split
  · rename_i e
    unfold moveP
    split
    · exact h
    · split
      · exact h
      · exact (h.set (hx e).1 _).set (hx e).2 _
  · exact h
theorem walkT_sup {σ : Type} (file fday day : Int) (ev : σ → Nat → Ac → Bool → σ) : ∀ (l : List Ac) (i : Nat) (S : Shs) (s : σ), ShSup S → (∀ x ∈ l, x.k = 16 → Known x) → ShSup (walkT file fday day ev i l S s).1
  | [], _, _, _, h, _ => h
  | x :: l, i, S, s, h, hl => by
    unfold walkT
    split
    · exact walkT_sup file fday day ev l _ _ _ (stepT_sup h x (hl x (by simp))) fun y hy => hl y (by simp [hy])
    · exact walkT_sup file fday day ev l _ _ _ h fun y hy => hl y (by simp [hy])
def acNum (k d n f p q : Int) (r : Rt) : Ac := ⟨k, d, n, f, 0, p, q, 0, 0, r.n, r.d, Sv.none, Sv.none, Sv.none, Sv.none, 0, 0, Sv.none, Sv.none⟩
def exA : Ac := acNum 0 10 0 4 1 (-1) ⟨0, 0⟩
def exB : Ac := acNum 16 20 1 4 1 2 ⟨1, 3⟩
def exC : Ac := acNum 16 30 2 4 2 3 ⟨1, 2⟩
def exL : List Ac := [exA, exB, exC]
def exS : Shs := setSh (setSh (first1 1) 1 ⟨2, 3⟩) 2 ⟨1, 3⟩
def exW : List (Int × Rt) := [(1, ⟨2, 3⟩), (2, ⟨1, 3⟩)]
end PA
namespace Go.Proofs.YtfapiopnjllnnaaGreatDoor
open PA
theorem exL_key : exL.Pairwise KeyNe := by
  unfold exL KeyNe
  simp [exA, exB, exC, acNum]
theorem exL_asc : Asc cmpK exL := by
  unfold exL Asc
  simp [exA, exB, exC, acNum, cmpK]
theorem exL_sort : sortK exL = exL := (sortK_of (.refl _) exL_asc exL_key).symm
theorem exL_fine : ActsFine exL := by
  intro x hx hk
  simp only [exL, List.mem_cons, List.not_mem_nil, or_false] at hx
  rcases hx with rfl | rfl | rfl
  · exact absurd hk (by decide)
  · exact ⟨by decide, by decide⟩
  · exact ⟨by decide, by decide⟩
theorem exL_known : ∀ x ∈ exL, x.k = 16 → Known x := by
  intro x hx hk
  simp only [exL, List.mem_cons, List.not_mem_nil, or_false] at hx
  rcases hx with rfl | rfl | rfl
  · exact absurd hk (by decide)
  · unfold Known; decide
  · unfold Known; decide
theorem exL_filed : filedT 4 (sortK exL) = some exA := by rw [exL_sort]; rfl
theorem exS_25 : finT 4 25 exA exL = exS := by
  unfold finT
  rw [exL_sort]
  rfl
theorem exS_40 : finT 4 40 exA exL = exS := by
  unfold finT
  rw [exL_sort]
  rfl
theorem exF : failT 4 exA exL = [2] := by
  unfold failT
  rw [exL_sort]
  rfl
theorem exW_of : OwnOf exS exW := by
  refine ⟨by simp [exW], fun p r => ?_⟩
  unfold exS first1 setSh exW
  by_cases h2 : p = 2
  · subst h2
    simp
    constructor
    · rintro rfl; exact ⟨rfl, by decide⟩
    · rintro ⟨h, -⟩; exact h.symm
  · by_cases h1 : p = 1
    · subst h1
      simp
      constructor
      · rintro rfl; exact ⟨rfl, by decide⟩
      · rintro ⟨h, -⟩; exact h.symm
    · simp [h1, h2]
theorem exErr (day : Int) (h : 10 ≤ day) (h2 : day ≤ 131072) : titleErr 4 day (sortK exL) = 0 := by
  unfold titleErr
  rw [exL_filed, if_neg (by omega)]
  show (if day < 10 then 7 else 0) = 0
  rw [if_neg (by omega)]
theorem exSup (day : Int) : ∀ k, (finT 4 day exA exL k).isSome = true → 0 ≤ k ∧ k < (10001 : Nat) := by
  unfold finT
  rw [exL_sort]
  exact walkT_sup _ _ _ _ _ _ _ _ (ShSup.first (by decide)) exL_known
end Go.Proofs.YtfapiopnjllnnaaGreatDoor
/- Title: the example of the section. -/
namespace Go.Proofs.YtfapiopnjllnnaaGreatDoor
open Go.RowKit PA
theorem cells_imm {J : Mem} {g : Nat} {xs : List Value} {t : TypeId} (h : J g = some (.cells xs.toArray t (0, 0))) : cellsAt (some ⟨g, 0, none⟩) xs J :=
  .inr ⟨g, 0, _, _, _, rfl, h, fun i u hu => by rw [Nat.zero_add]; simpa using hu⟩
set_option maxRecDepth 100000 in
set_option maxHeartbeats 4000000 in
theorem lives25_spec {W w : World} {A : Assn} (h : Sat W w A) :
    Calls Tryz.prog 20 #[] w fun e w' => e = .returned (.bool true) ∧ Sat W w' A := by
  obtain ⟨I, hk⟩ := h.know
  obtain ⟨J, hle, hJ, h1⟩ := (hk.alloc (.cells (acs exL).toArray 57)).settle.learn
  obtain ⟨B, hB⟩ : ∃ B, B = w.heap.size := ⟨_, rfl⟩
  obtain ⟨w1, hw1⟩ : ∃ w1, w1 = w.alloc (.cells (acs exL).toArray 57) := ⟨_, rfl⟩
  have hsz : w1.heap.size = B + 1 := by rw [hw1, World.size_alloc, hB]
  rw [← hB] at hJ
  rw [← hw1] at h1
  have h2 := lit_oslT (E := 91) (k := 3) h1 (ownC exW) 2 rfl (by unfold maxLen; omega)
  obtain ⟨w2, hw2⟩ : ∃ w2, w2 = w1.alloc (.cells (ownC exW).toArray 91) := ⟨_, rfl⟩
  rw [← hw2, hsz] at h2
  have hc := cells_imm hJ
  have hsw : Swf (some (⟨B, 0, none⟩ : Addr)) 3 3 := ⟨Nat.le_refl _, by unfold maxLen; omega, fun e => by cases e⟩
  have HO1 := Lib.hid (owners_ok 4 25 exA ⟨B, 0, none⟩ 3 3 exL rfl (by omega) (by omega) exL_key exL_fine hsw hc exL_filed (exErr 25 (by omega) (by omega)) (exSup 25) h2.p1)
  have HB := Lib.hid hB
  have HW1 := Lib.hid hw1
  have HW2 := Lib.hid hw2
  have HSZ := Lib.hid hsz
  have HC := Lib.hid (And.intro hc hsw)
  clear h hk hle hJ h1 hB hw1 h2 hw2 hc hsw hsz
  go_enter Tryz.func20, Tryz.ntmps20
  go_upto_region 2 with (fail)
  rw [← HB.out]
  change Code.wp _ _ _ _ (w.alloc (.cells (acs exL).toArray 57))
  rw [← HW1.out]
  go_upto_region 3 with (fail)
  rw [HSZ.out]
  change Code.wp _ _ _ _ (w1.alloc (.cells (ownC exW).toArray 91))
  rw [← HW2.out]
  clear HB HW1 HW2 HSZ
  go_wp2_with fail
  refine HO1.out.mono ?_
  rintro e w3 ⟨own, a3, c3, J3, rfl, ho, hle3, h3⟩
  rw [exS_25] at ho
  obtain rfl := ho.unique exW_of
  have HO2 := Lib.hid (owners_ok 4 40 exA ⟨B, 0, none⟩ 3 3 exL rfl (by omega) (by omega) exL_key exL_fine HC.out.2 (cellsAt_mono hle3 HC.out.1) exL_filed (exErr 40 (by omega) (by omega)) (exSup 40) h3.p1)
  have HLE3 := Lib.hid hle3
  clear HO1 ho h3 hle3
  go_wp2_with fail
  refine HO2.out.mono ?_
  rintro e w4 ⟨own, a5, c5, J5, rfl, ho, hle5, h5⟩
  rw [exS_40] at ho
  obtain rfl := ho.unique exW_of
  have HF := Lib.hid (failed_ok 4 exA ⟨B, 0, none⟩ 3 3 exL rfl (by omega) (by omega) exL_key exL_fine HC.out.2 (cellsAt_mono (Mem.le_trans HLE3.out hle5) HC.out.1) exL_filed (exErr 131072 (by omega) (by omega)) h5.p1)
  clear HO2 ho h5 hle5
  go_wp2_with fail
  refine HF.out.mono ?_
  rintro e w5 ⟨a7, c7, J7, rfl, -, h7⟩
  rw [exF] at h7 ⊢
  have h8 : Sat W w5 (sep (osl 46 3 a3 2 c3 (ownC exW)) (sep (osl 91 3 (some ⟨B + 1, 0, none⟩) 2 2 (ownC exW)) (sep (osl 46 3 a5 2 c5 (ownC exW)) (sep (osl 3 1 a7 1 c7 ([2].map iv)) A)))) := by
    have := h7.p1.drop
    have h9 : Sat W w5 (sep (osl 3 1 a7 1 c7 ([2].map iv)) (sep (osl 46 3 a5 2 c5 (ownC exW)) (sep (osl 46 3 a3 2 c3 (ownC exW)) (sep (osl 91 3 (some ⟨B + 1, 0, none⟩) 2 2 (ownC exW)) A)))) := this
    simpa only [sep_comm, sep_lcomm, sep_assoc] using h9
  have HP1 := Lib.hid (plain_spec a3 2 c3 exW rfl (by omega) h8)
  clear HF h7 h8
  go_wp2_with fail
  refine HP1.out.mono ?_
  rintro e w6 ⟨a9, c9, rfl, h9⟩
  have HS1 := Lib.hid (sameOwners_spec a9 (some ⟨B + 1, 0, none⟩) 2 2 c9 2 exW exW rfl rfl (by omega) (by omega) h9.p2.p1)
  clear HP1 h9
  go_wp2_with fail
  refine HS1.out.mono ?_
  rintro e w7 ⟨rfl, h10⟩
  have HP2 := Lib.hid (plain_spec a5 2 c5 exW rfl (by omega) h10.p3)
  have hdt : decide (exW = exW) = true := decide_eq_true rfl
  clear HS1 h10
  go_wp2_with fail
  refine HP2.out.mono ?_
  rintro e w8 ⟨a11, c11, rfl, h11⟩
  have HS2 := Lib.hid (sameOwners_spec a11 (some ⟨B + 1, 0, none⟩) 2 2 c11 2 exW exW rfl rfl (by omega) (by omega) h11.p3.p1)
  clear HP2 h11
  go_wp2_with fail
  refine HS2.out.mono ?_
  rintro e w9 ⟨rfl, h12⟩
  have h13 := h12.drop.drop.drop.drop.drop
  have h14 := lit_oslT (E := 3) (k := 1) h13 ([2].map iv) 1 rfl (by unfold maxLen; omega)
  have HSI := Lib.hid (sameIntsT_sat a7 (some ⟨w9.heap.size, 0, none⟩) c7 1 [2] [2] (h14.p1))
  clear HS2 h12 h13 h14
  go_wp2_with fail
  refine HSI.out.mono ?_
  rintro e w10 ⟨rfl, h15⟩
  have H15 := Lib.hid h15
  clear h15 HSI
  go_wp2
  go_ret
  exact ⟨rfl, H15.out⟩
end Go.Proofs.YtfapiopnjllnnaaGreatDoor
/- What came in: rows of integers and of bytes, as known slices. -/
namespace PA
open Go Go.RowKit
def wm (w : World) : Mem := fun b => w.heap[b]?
theorem Sat.startKn (W : World) : Sat W W (sep (kn (wm W)) emp) :=
  ⟨rfl, rfl, rfl, wm W, Mem.no, fun _ _ h => h, fun _ _ h => h, fun _ _ h => (by simp [Mem.no] at h), Mem.no, Mem.no, fun _ => .inl rfl, (Mem.un_no _).symm, ⟨rfl, Mem.le_refl _⟩, rfl⟩
theorem ints_rel {I : Mem} {v : Value} {ns : List Int} : (rInt.slice 1).rel I [v] ns ↔ ∃ a c, v = .slice a ns.length c ∧ Swf a ns.length c ∧ cellsAt a (ns.map iv) I := by
  constructor
  · rintro ⟨a, c, cells, h1, h2, h3, h4⟩
    cases h1
    rw [(rows_rInt _ _ _).1 h4] at h3
    exact ⟨a, c, rfl, h2, h3⟩
  · rintro ⟨a, c, rfl, h2, h3⟩
    exact ⟨a, c, _, rfl, h2, h3, (rows_rInt _ _ _).2 rfl⟩
theorem cellsAt_of {w : World} {x : Addr} {us : List Value} (h : ∀ j u, us[j]? = some u → w.cell? (x.add j) = some u) : cellsAt (some x) us (wm w) := by
  cases us with
  | nil => exact .inl rfl
  | cons u us =>
    right
    have h0 := h 0 u rfl
    have e0 : x.add 0 = x := rfl
    rw [e0] at h0
    obtain ⟨b, o, sp⟩ := x
    unfold World.cell? at h0
    dsimp only at h0
    cases hb : w.heap[b]? with
    | none => rw [hb] at h0; cases h0
    | some ob =>
      rw [hb] at h0
      cases ob with
      | cells c t f =>
        dsimp only at h0
        cases sp with
        | some q => simp at h0
        | none =>
          refine ⟨b, o, c, t, f, rfl, hb, fun i v hv => ?_⟩
          have hi := h i v hv
          have e : (⟨b, o, none⟩ : Addr).add i = ⟨b, o + i, none⟩ := by unfold Addr.add; split <;> simp_all
          rw [e] at hi
          unfold World.cell? at hi
          dsimp only at hi
          rw [hb] at hi
          simpa using hi
      | _ => cases h0
end PA
namespace Go.Proofs.YtfapiopnjllnnaaGreatDoor
open Go.RowKit PA
def I64' (n : Int) : Prop := -9223372036854775808 ≤ n ∧ n ≤ 9223372036854775807
/-- A row of integers that came in. -/
def IsArg (w : World) (a : Option Addr) (len cap : Nat) (zs : List Int) : Prop :=
  (a = none ∧ len = 0 ∧ cap = 0 ∧ zs = []) ∨
  ∃ x, a = some x ∧ len ≤ cap ∧ cap ≤ maxLen ∧ zs.length = cap ∧ (∀ i, i < zs.length → w.cell? (x.add i) = some (.int .i64 (zs.getD i 0))) ∧ ∀ n ∈ zs, (Lit.int .i64 n).wf = true
theorem argI {w : World} {a : Option Addr} {len cap : Nat} {zs : List Int} (h : IsArg w a len cap zs) :
    ∃ l : List Int, len = l.length ∧ (rInt.slice 1).rel (wm w) [.slice a len cap] l ∧ ∀ n ∈ l, I64' n := by
  rcases h with ⟨rfl, rfl, rfl, rfl⟩ | ⟨x, rfl, h1, h2, h3, h4, h5⟩
  · exact ⟨[], rfl, ints_rel.2 ⟨none, 0, rfl, ⟨Nat.le_refl _, Nat.zero_le _, fun _ => rfl⟩, .inl rfl⟩, fun n hn => by cases hn⟩
  · have hl : len = (zs.take len).length := by simp; omega
    refine ⟨zs.take len, hl, ints_rel.2 ⟨some x, cap, by rw [← hl], ⟨by rw [← hl]; exact h1, h2, fun e => by cases e⟩, cellsAt_of fun j u hu => ?_⟩, fun n hn => ?_⟩
    · rw [List.getElem?_map, List.getElem?_take] at hu
      split at hu
      · rename_i hj
        have hjz : j < zs.length := by omega
        rw [List.getElem?_eq_getElem hjz] at hu
        rw [h4 j hjz, ← hu, List.getD_eq_getElem?_getD, List.getElem?_eq_getElem hjz]
        rfl
      · cases hu
    · exact i64_of_wf (h5 n (List.mem_of_mem_take hn))
/-- A row of bytes that came in. -/
def IsArgB (w : World) (a : Option Addr) (len cap : Nat) (zs : List Int) : Prop :=
  (a = none ∧ len = 0 ∧ cap = 0 ∧ zs = []) ∨
  ∃ x, a = some x ∧ len ≤ cap ∧ cap ≤ maxLen ∧ zs.length = cap ∧ (∀ i, i < zs.length → w.cell? (x.add i) = some (.int .u8 (zs.getD i 0))) ∧ ∀ n ∈ zs, (Lit.int .u8 n).wf = true
theorem argB {w : World} {a : Option Addr} {len cap : Nat} {zs : List Int} (h : IsArgB w a len cap zs) :
    ∃ l : List UInt8, len = l.length ∧ rBytes.rel (wm w) [.slice a len cap] l := by
  rcases h with ⟨rfl, rfl, rfl, rfl⟩ | ⟨x, rfl, h1, h2, h3, h4, h5⟩
  · exact ⟨[], rfl, bytes_rel.2 ⟨none, 0, rfl, ⟨Nat.le_refl _, Nat.zero_le _, fun _ => rfl⟩, .inl rfl⟩⟩
  · have hl : len = ((zs.take len).map fun n => UInt8.ofNat n.toNat).length := by simp; omega
    refine ⟨_, hl, bytes_rel.2 ⟨some x, cap, by rw [← hl], ⟨by rw [← hl]; exact h1, h2, fun e => by cases e⟩, cellsAt_of fun j u hu => ?_⟩⟩
    rw [List.map_map, List.getElem?_map, List.getElem?_take] at hu
    split at hu
    · rename_i hj
      have hjz : j < zs.length := by omega
      rw [List.getElem?_eq_getElem hjz] at hu
      rw [h4 j hjz, ← hu]
      have hw := h5 zs[j] (List.getElem_mem hjz)
      have hb2 : 0 ≤ zs[j] ∧ zs[j] ≤ 255 := bounds_u8 hw
      have e1 : zs.getD j 0 = zs[j] := by rw [List.getD_eq_getElem?_getD, List.getElem?_eq_getElem hjz]; rfl
      rw [e1]
      show some (Value.int .u8 zs[j]) = some (Value.int .u8 ((UInt8.ofNat zs[j].toNat).toNat : Int))
      congr 2
      simp; omega
    · cases hu
end Go.Proofs.YtfapiopnjllnnaaGreatDoor
