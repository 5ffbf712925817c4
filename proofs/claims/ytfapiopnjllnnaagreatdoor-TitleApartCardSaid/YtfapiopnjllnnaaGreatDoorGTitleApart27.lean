/- Title: the example of the section. -/
import Derived.Test.YtfapiopnjllnnaaGreatDoorGTitleApart26
import Derived.Test.YtfapiopnjllnnaaGreatDoorGTitleApart4
import Derived.Test.YtfapiopnjllnnaaGreatDoorGTitleApart20
import Derived.Deep.CutBlock
import Derived.Deep.WholeRow
import Derived.Test.YtfapiopnjllnnaaGreatDoorSl
namespace Go.Proofs.YtfapiopnjllnnaaGreatDoor
open Go.RowKit PA
theorem cells_imm {J : Mem} {g : Nat} {xs : List Value} {t : TypeId} (h : J g = some (.cells xs.toArray t (0, 0))) : cellsAt (some ⟨g, 0, none⟩) xs J :=
  .inr ⟨g, 0, _, _, _, rfl, h, fun i u hu => by rw [Nat.zero_add]; simpa using hu⟩
set_option maxRecDepth 100000 in
set_option maxHeartbeats 4000000 in
theorem lives25_spec {W w : World} {A : Assn} (h : Sat W w A) :
    Calls Tryz.prog 20 #[] w fun e w' => e = .returned (.bool true) ∧ Sat W w' A := by
  obtain ⟨I, hk⟩ := h.know
  obtain ⟨J, hle, hJ, h1⟩ := (hk.alloc (.cells (acs exL).toArray 57)).settle.learn
  obtain ⟨B, hB⟩ : ∃ B, B = w.heap.size := ⟨_, rfl⟩
  obtain ⟨w1, hw1⟩ : ∃ w1, w1 = w.alloc (.cells (acs exL).toArray 57) := ⟨_, rfl⟩
  have hsz : w1.heap.size = B + 1 := by rw [hw1, World.size_alloc, hB]
  rw [← hB] at hJ
  rw [← hw1] at h1
  have h2 := lit_oslT (E := 91) (k := 3) h1 (ownC exW) 2 rfl (by unfold maxLen; omega)
  obtain ⟨w2, hw2⟩ : ∃ w2, w2 = w1.alloc (.cells (ownC exW).toArray 91) := ⟨_, rfl⟩
  rw [← hw2, hsz] at h2
  have hc := cells_imm hJ
  have hsw : Swf (some (⟨B, 0, none⟩ : Addr)) 3 3 := ⟨Nat.le_refl _, by unfold maxLen; omega, fun e => by cases e⟩
  have HO1 := Lib.hid (owners_ok 4 25 exA ⟨B, 0, none⟩ 3 3 exL rfl (by omega) (by omega) exL_key exL_fine hsw hc exL_filed (exErr 25 (by omega) (by omega)) (exSup 25) h2.p1)
  have HB := Lib.hid hB
  have HW1 := Lib.hid hw1
  have HW2 := Lib.hid hw2
  have HSZ := Lib.hid hsz
  have HC := Lib.hid (And.intro hc hsw)
  clear h hk hle hJ h1 hB hw1 h2 hw2 hc hsw hsz
  go_enter Tryz.func20, Tryz.ntmps20
  go_upto_region 2 with (fail)
  rw [← HB.out]
  change Code.wp _ _ _ _ (w.alloc (.cells (acs exL).toArray 57))
  rw [← HW1.out]
  go_upto_region 3 with (fail)
  rw [HSZ.out]
  change Code.wp _ _ _ _ (w1.alloc (.cells (ownC exW).toArray 91))
  rw [← HW2.out]
  clear HB HW1 HW2 HSZ
  go_wp2_with fail
  refine HO1.out.mono ?_
  rintro e w3 ⟨own, a3, c3, J3, rfl, ho, hle3, h3⟩
  rw [exS_25] at ho
  obtain rfl := ho.unique exW_of
  have HO2 := Lib.hid (owners_ok 4 40 exA ⟨B, 0, none⟩ 3 3 exL rfl (by omega) (by omega) exL_key exL_fine HC.out.2 (cellsAt_mono hle3 HC.out.1) exL_filed (exErr 40 (by omega) (by omega)) (exSup 40) h3.p1)
  have HLE3 := Lib.hid hle3
  clear HO1 ho h3 hle3
  go_wp2_with fail
  refine HO2.out.mono ?_
  rintro e w4 ⟨own, a5, c5, J5, rfl, ho, hle5, h5⟩
  rw [exS_40] at ho
  obtain rfl := ho.unique exW_of
  have HF := Lib.hid (failed_ok 4 exA ⟨B, 0, none⟩ 3 3 exL rfl (by omega) (by omega) exL_key exL_fine HC.out.2 (cellsAt_mono (Mem.le_trans HLE3.out hle5) HC.out.1) exL_filed (exErr 131072 (by omega) (by omega)) h5.p1)
  clear HO2 ho h5 hle5
  go_wp2_with fail
  refine HF.out.mono ?_
  rintro e w5 ⟨a7, c7, J7, rfl, -, h7⟩
  rw [exF] at h7 ⊢
  have h8 : Sat W w5 (sep (osl 46 3 a3 2 c3 (ownC exW)) (sep (osl 91 3 (some ⟨B + 1, 0, none⟩) 2 2 (ownC exW)) (sep (osl 46 3 a5 2 c5 (ownC exW)) (sep (osl 3 1 a7 1 c7 ([2].map iv)) A)))) := by
    have := h7.p1.drop
    have h9 : Sat W w5 (sep (osl 3 1 a7 1 c7 ([2].map iv)) (sep (osl 46 3 a5 2 c5 (ownC exW)) (sep (osl 46 3 a3 2 c3 (ownC exW)) (sep (osl 91 3 (some ⟨B + 1, 0, none⟩) 2 2 (ownC exW)) A)))) := this
    simpa only [sep_comm, sep_lcomm, sep_assoc] using h9
  have HP1 := Lib.hid (plain_spec a3 2 c3 exW rfl (by omega) h8)
  clear HF h7 h8
  go_wp2_with fail
  refine HP1.out.mono ?_
  rintro e w6 ⟨a9, c9, rfl, h9⟩
  have HS1 := Lib.hid (sameOwners_spec a9 (some ⟨B + 1, 0, none⟩) 2 2 c9 2 exW exW rfl rfl (by omega) (by omega) h9.p2.p1)
  clear HP1 h9
  go_wp2_with fail
  refine HS1.out.mono ?_
  rintro e w7 ⟨rfl, h10⟩
  have HP2 := Lib.hid (plain_spec a5 2 c5 exW rfl (by omega) h10.p3)
  have hdt : decide (exW = exW) = true := decide_eq_true rfl
  clear HS1 h10
  go_wp2_with fail
  refine HP2.out.mono ?_
  rintro e w8 ⟨a11, c11, rfl, h11⟩
  have HS2 := Lib.hid (sameOwners_spec a11 (some ⟨B + 1, 0, none⟩) 2 2 c11 2 exW exW rfl rfl (by omega) (by omega) h11.p3.p1)
  clear HP2 h11
  go_wp2_with fail
  refine HS2.out.mono ?_
  rintro e w9 ⟨rfl, h12⟩
  have h13 := h12.drop.drop.drop.drop.drop
  have h14 := lit_oslT (E := 3) (k := 1) h13 ([2].map iv) 1 rfl (by unfold maxLen; omega)
  have HSI := Lib.hid (sameIntsT_sat a7 (some ⟨w9.heap.size, 0, none⟩) c7 1 [2] [2] (h14.p1))
  clear HS2 h12 h13 h14
  go_wp2_with fail
  refine HSI.out.mono ?_
  rintro e w10 ⟨rfl, h15⟩
  have H15 := Lib.hid h15
  clear h15 HSI
  go_wp2
  go_ret
  exact ⟨rfl, H15.out⟩
end Go.Proofs.YtfapiopnjllnnaaGreatDoor
/- What came in: rows of integers and of bytes, as known slices. -/
namespace PA
open Go Go.RowKit
def wm (w : World) : Mem := fun b => w.heap[b]?
theorem Sat.startKn (W : World) : Sat W W (sep (kn (wm W)) emp) :=
  ⟨rfl, rfl, rfl, wm W, Mem.no, fun _ _ h => h, fun _ _ h => h, fun _ _ h => (by simp [Mem.no] at h), Mem.no, Mem.no, fun _ => .inl rfl, (Mem.un_no _).symm, ⟨rfl, Mem.le_refl _⟩, rfl⟩
theorem ints_rel {I : Mem} {v : Value} {ns : List Int} : (rInt.slice 1).rel I [v] ns ↔ ∃ a c, v = .slice a ns.length c ∧ Swf a ns.length c ∧ cellsAt a (ns.map iv) I := by
  constructor
  · rintro ⟨a, c, cells, h1, h2, h3, h4⟩
    cases h1
    rw [(rows_rInt _ _ _).1 h4] at h3
    exact ⟨a, c, rfl, h2, h3⟩
  · rintro ⟨a, c, rfl, h2, h3⟩
    exact ⟨a, c, _, rfl, h2, h3, (rows_rInt _ _ _).2 rfl⟩
theorem cellsAt_of {w : World} {x : Addr} {us : List Value} (h : ∀ j u, us[j]? = some u → w.cell? (x.add j) = some u) : cellsAt (some x) us (wm w) := by
  cases us with
  | nil => exact .inl rfl
  | cons u us =>
    right
    have h0 := h 0 u rfl
    have e0 : x.add 0 = x := rfl
    rw [e0] at h0
    obtain ⟨b, o, sp⟩ := x
    unfold World.cell? at h0
    dsimp only at h0
    cases hb : w.heap[b]? with
    | none => rw [hb] at h0; cases h0
    | some ob =>
      rw [hb] at h0
      cases ob with
      | cells c t f =>
        dsimp only at h0
        cases sp with
        | some q => simp at h0
        | none =>
          refine ⟨b, o, c, t, f, rfl, hb, fun i v hv => ?_⟩
          have hi := h i v hv
          have e : (⟨b, o, none⟩ : Addr).add i = ⟨b, o + i, none⟩ := by unfold Addr.add; split <;> simp_all
          rw [e] at hi
          unfold World.cell? at hi
          dsimp only at hi
          rw [hb] at hi
          simpa using hi
      | _ => cases h0
end PA
namespace Go.Proofs.YtfapiopnjllnnaaGreatDoor
open Go.RowKit PA
def I64' (n : Int) : Prop := -9223372036854775808 ≤ n ∧ n ≤ 9223372036854775807
/-- A row of integers that came in. -/
def IsArg (w : World) (a : Option Addr) (len cap : Nat) (zs : List Int) : Prop :=
  (a = none ∧ len = 0 ∧ cap = 0 ∧ zs = []) ∨
  ∃ x, a = some x ∧ len ≤ cap ∧ cap ≤ maxLen ∧ zs.length = cap ∧ (∀ i, i < zs.length → w.cell? (x.add i) = some (.int .i64 (zs.getD i 0))) ∧ ∀ n ∈ zs, (Lit.int .i64 n).wf = true
theorem argI {w : World} {a : Option Addr} {len cap : Nat} {zs : List Int} (h : IsArg w a len cap zs) :
    ∃ l : List Int, len = l.length ∧ (rInt.slice 1).rel (wm w) [.slice a len cap] l ∧ ∀ n ∈ l, I64' n := by
  rcases h with ⟨rfl, rfl, rfl, rfl⟩ | ⟨x, rfl, h1, h2, h3, h4, h5⟩
  · exact ⟨[], rfl, ints_rel.2 ⟨none, 0, rfl, ⟨Nat.le_refl _, Nat.zero_le _, fun _ => rfl⟩, .inl rfl⟩, fun n hn => by cases hn⟩
  · have hl : len = (zs.take len).length := by simp; omega
    refine ⟨zs.take len, hl, ints_rel.2 ⟨some x, cap, by rw [← hl], ⟨by rw [← hl]; exact h1, h2, fun e => by cases e⟩, cellsAt_of fun j u hu => ?_⟩, fun n hn => ?_⟩
    · rw [List.getElem?_map, List.getElem?_take] at hu
      split at hu
      · rename_i hj
        have hjz : j < zs.length := by omega
        rw [List.getElem?_eq_getElem hjz] at hu
        rw [h4 j hjz, ← hu, List.getD_eq_getElem?_getD, List.getElem?_eq_getElem hjz]
        rfl
      · cases hu
    · exact i64_of_wf (h5 n (List.mem_of_mem_take hn))
/-- A row of bytes that came in. -/
def IsArgB (w : World) (a : Option Addr) (len cap : Nat) (zs : List Int) : Prop :=
  (a = none ∧ len = 0 ∧ cap = 0 ∧ zs = []) ∨
  ∃ x, a = some x ∧ len ≤ cap ∧ cap ≤ maxLen ∧ zs.length = cap ∧ (∀ i, i < zs.length → w.cell? (x.add i) = some (.int .u8 (zs.getD i 0))) ∧ ∀ n ∈ zs, (Lit.int .u8 n).wf = true
theorem argB {w : World} {a : Option Addr} {len cap : Nat} {zs : List Int} (h : IsArgB w a len cap zs) :
    ∃ l : List UInt8, len = l.length ∧ rBytes.rel (wm w) [.slice a len cap] l := by
  rcases h with ⟨rfl, rfl, rfl, rfl⟩ | ⟨x, rfl, h1, h2, h3, h4, h5⟩
  · exact ⟨[], rfl, bytes_rel.2 ⟨none, 0, rfl, ⟨Nat.le_refl _, Nat.zero_le _, fun _ => rfl⟩, .inl rfl⟩⟩
  · have hl : len = ((zs.take len).map fun n => UInt8.ofNat n.toNat).length := by simp; omega
    refine ⟨_, hl, bytes_rel.2 ⟨some x, cap, by rw [← hl], ⟨by rw [← hl]; exact h1, h2, fun e => by cases e⟩, cellsAt_of fun j u hu => ?_⟩⟩
    rw [List.map_map, List.getElem?_map, List.getElem?_take] at hu
    split at hu
    · rename_i hj
      have hjz : j < zs.length := by omega
      rw [List.getElem?_eq_getElem hjz] at hu
      rw [h4 j hjz, ← hu]
      have hw := h5 zs[j] (List.getElem_mem hjz)
      have hb2 : 0 ≤ zs[j] ∧ zs[j] ≤ 255 := bounds_u8 hw
      have e1 : zs.getD j 0 = zs[j] := by rw [List.getD_eq_getElem?_getD, List.getElem?_eq_getElem hjz]; rfl
      rw [e1]
      show some (Value.int .u8 zs[j]) = some (Value.int .u8 ((UInt8.ofNat zs[j].toNat).toNat : Int))
      congr 2
      simp; omega
    · cases hu
end Go.Proofs.YtfapiopnjllnnaaGreatDoor
/- Title's script in plain, and pick. -/
namespace PA
open Go
def pickP (l : List Int) (i : Nat) (n : Int) : Int := match l[i]? with | some x => max 0 (Int.tmod x n) | none => 0
theorem pickP_nat (l : List Int) (i : Nat) (n : Int) (hn : 0 < n) : ∃ k : Nat, pickP l i n = (k : Int) ∧ (k : Int) < n := by
  unfold pickP
  split
  · rename_i x _
    refine ⟨(max 0 (Int.tmod x n)).toNat, by omega, ?_⟩
    have := Int.tmod_lt_of_pos x hn
    omega
  · exact ⟨0, rfl, hn⟩
def shsP : List Rt := [⟨1, 1⟩, ⟨1, 2⟩, ⟨1, 3⟩, ⟨2, 3⟩, ⟨1, 6⟩, ⟨1, 1048576⟩, ⟨1, 1048575⟩]
def act1 (k i d : Nat) : Ac := acNum 16 (95 + (d : Int)) (5 + 2 * (i : Int)) 2 (1 + ((k % 4 : Nat) : Int)) (1 + (((k % 4 + 1 + k / 4 % 3) % 4 : Nat) : Int)) ⟨0, 0⟩
def act2 (k : Nat) (x : Ac) : Ac := if k % 11 = 10 then { x with f := 7 } else x
def act3 (k n : Nat) (x : Ac) : Ac := if k % 5 = 4 then { x with k := 17, u := x.d + ((n % 30 : Nat) : Int) } else { x with sn := (shsP.getD (n % 7) ⟨0, 0⟩).n, sd := (shsP.getD (n % 7) ⟨0, 0⟩).d }
def act4 (k : Nat) (x : Ac) : Ac := if k % 23 = 22 then acNum 1 x.d x.n 2 0 0 ⟨0, 0⟩ else x
def actN (k n d i : Nat) : Ac := act4 k (act3 k n (act2 k (act1 k i d)))
def actP (l : List Int) (i : Nat) : Ac := actN (pickP l (3 * i) 1048576).toNat (pickP l (3 * i + 1) 1048576).toNat (pickP l (3 * i + 2) 40).toNat i
def fil2 : Ac := acNum 0 100 0 2 1 (-1) ⟨0, 0⟩
def fil7 : Ac := acNum 0 90 1 7 2 (-1) ⟨0, 0⟩
def scrN (l : List Int) : Nat := min 12 ((l.length + 2) / 3)
def scrP (l : List Int) : List Ac := [fil2, fil7] ++ (List.range (scrN l)).map (actP l)
end PA
namespace Go.Proofs.YtfapiopnjllnnaaGreatDoor
open Go.RowKit PA
theorem pick25_spec {W w : World} {A : Assn} {I : Mem} (a : Option Addr) (c : Nat) (l : List Int) (i : Nat) (n : Int) (hn0 : 0 < n) (hn1 : n ≤ 9223372036854775807) (hi : i ≤ 1000) (hv : (rInt.slice 1).rel I [.slice a l.length c] l) (hl : ∀ z ∈ l, I64' z) (h : Sat W w (sep (kn I) A)) :
    Calls Tryz.prog 37 #[.slice a l.length c, .int .i64 i, .int .i64 n] w fun e w' => e = .returned (.int .i64 (pickP l i n)) ∧ w = w' := by
  obtain ⟨a', c', e, hsw, hc⟩ := ints_rel.1 hv
  simp only [Value.slice.injEq] at e
  obtain ⟨rfl, -, rfl⟩ := e
  obtain ⟨r, hr⟩ : ∃ r, r = pickP l i n := ⟨_, rfl⟩
  rw [← hr]
  unfold pickP at hr
  have HR := Lib.hid hr
  have hlen : (l.length : Int) ≤ 9223372036854775807 := by
    have h1 := hsw.1; have h2 := hsw.2.1; unfold maxLen at h2; omega
  have hiI : (i : Int) ≤ 1000 := by omega
  by_cases hlt : i < l.length
  · have hltz : ¬ (l.length : Int) ≤ (i : Int) := by omega
    have hltz2 : (i : Int) < (l.length : Int) := by omega
    obtain ⟨b, o, rfl, hcell⟩ := cells_ext hc (fun e => by have := congrArg List.length e; simp at this; rw [this] at hlt; simp at hlt)
    obtain ⟨x, hx⟩ : ∃ x, x = l[i] := ⟨_, rfl⟩
    have c0 := hcell w h.ext i (iv x) (by rw [List.getElem?_map, List.getElem?_eq_getElem hlt, hx]; rfl)
    unfold iv at c0
    have hx64 := hl x (by rw [hx]; exact List.getElem_mem hlt)
    have HX : Hid (l[i]? = some x) := Lib.hid (by rw [List.getElem?_eq_getElem hlt, hx])
    have hn00 : ¬ n = 0 := by omega
    have ht1 : Int.tmod x n < n := Int.tmod_lt_of_pos x hn0
    obtain ⟨t, ht⟩ : ∃ t, t = Int.tmod x n := ⟨_, rfl⟩
    have et : Int.tmod x n = t := ht.symm
    rw [← ht] at ht1
    have HT := Lib.hid ht
    obtain ⟨ll, hll⟩ : ∃ ll, ll = l.length := ⟨_, rfl⟩
    rw [← hll] at hlen hltz hltz2 ⊢
    clear hv hc hcell hl hr hx ht hll h hsw
    go_enter Tryz.func37, Tryz.ntmps37
    go_wp2
    go_ret
    have hrr := HR.out
    rw [HX.out] at hrr
    simp only at hrr
    rw [← HT.out] at hrr
    exact ⟨by rw [hrr]; rfl, rfl⟩
  · have hltz : (l.length : Int) ≤ (i : Int) := by omega
    have HX : Hid (l[i]? = none) := Lib.hid (List.getElem?_eq_none (by omega))
    obtain ⟨ll, hll⟩ : ∃ ll, ll = l.length := ⟨_, rfl⟩
    rw [← hll] at hlen hltz ⊢
    clear hv hc hl hr hll h hsw hlt
    go_enter Tryz.func37, Tryz.ntmps37
    go_wp2
    go_ret
    have hrr := HR.out
    rw [HX.out] at hrr
    exact ⟨by rw [hrr]; rfl, rfl⟩
end Go.Proofs.YtfapiopnjllnnaaGreatDoor
/- An act stored and loaded whole, as one operation of the walk. -/
namespace Go.Proofs.YtfapiopnjllnnaaGreatDoor
open Go.RowKit PA
def stAct (a v : Value) : Sem Unit := Instr.storeAt 57 a v
def ldAct (a : Value) : Sem Value := Instr.loadAt 57 a
theorem storeAt_act (a v : Value) : Instr.storeAt 57 a v = stAct a v := rfl
theorem loadAt_act (a : Value) : Instr.loadAt 57 a = ldAct a := rfl
theorem isAggAct (w : World) : (Go.isAgg 57).run Tryz.prog w = .ok true w := by kernel_rfl
theorem run_stAct {w : World} {q : Nat} {cs : Array Value} (h : w.heap[q]? = some (.cells cs 57 (0, 0))) (hs : cs.size = 19) (x : Ac) :
    Sem.run Tryz.prog (stAct (.pointer (some ⟨q, 0, none⟩)) (.agg x.cells.toArray)) w = .ok () (w.setRow q x.cells.toArray) := by
  have hst := run_storeCells_at Tryz.prog q 0 57 x.cells 0 cs w h (by show 0 + 0 + 19 ≤ _; omega) x.one
  have e : cs.toList.take (0 + 0) ++ x.cells ++ cs.toList.drop (0 + 0 + x.cells.length) = x.cells := by
    have hd : cs.toList.drop (0 + 0 + x.cells.length) = [] := List.drop_eq_nil_of_le (by rw [Array.length_toList, hs]; show 19 ≤ 0 + 0 + 19; omega)
    rw [hd, List.append_nil]; rfl
  rw [e] at hst
  have hk : ¬ (Value.agg x.cells.toArray).cells.size ≠ kA := by
    intro hc; exact hc rfl
  show Sem.run Tryz.prog (storeVar 57 ⟨q, 0, none⟩ (.agg x.cells.toArray)) w = _
  unfold storeVar
  rw [Sem.run_bind, sizeAct]
  show Sem.run Tryz.prog (if (Value.agg x.cells.toArray).cells.size ≠ kA then _ else _) w = _
  rw [if_neg hk]
  exact hst
theorem ldgen {P : Program} (B : Sem Bool) (N : Sem Nat) (L : Nat → Sem (Array Value)) (e : Sem Value) {n : Nat} {c : Array Value} {w : World} (hB : B.run P w = .ok true w) (hN : N.run P w = .ok n w) (hL : (L n).run P w = .ok c w) :
    Sem.run P (do if ← B then pure (.agg (← L (← N))) else e) w = .ok (.agg c) w := by
  rw [Sem.run_bind, hB]
  show Sem.run P (do pure (Value.agg (← L (← N)))) w = _
  rw [Sem.run_bind, hN]
  show Sem.run P (do pure (Value.agg (← L n))) w = _
  rw [Sem.run_bind, hL]
  rfl
theorem run_ldAct {w : World} {q : Nat} {x : Ac} (h : ∀ i v, x.cells[i]? = some v → w.cell? ⟨q, i, none⟩ = some v) :
    Sem.run Tryz.prog (ldAct (.pointer (some ⟨q, 0, none⟩))) w = .ok (.agg x.cells.toArray) w := by
  have hl : x.cells.length = kA := rfl
  have := run_loadCells_list (P := Tryz.prog) w ⟨q, 0, none⟩ x.cells (fun j v hj => by
    have e : (⟨q, 0, none⟩ : Addr).add j = ⟨q, j, none⟩ := by unfold Addr.add; split <;> simp_all
    rw [e]
    exact h j v hj)
  rw [hl] at this
  show Sem.run Tryz.prog (loadVar 57 ⟨q, 0, none⟩) w = _
  unfold loadVar
  exact ldgen (Go.isAgg 57) (Go.sizeOf 57) (loadCells ⟨q, 0, none⟩) _ (isAggAct w) (sizeAct w) this
theorem st_lit (w : World) (c0 c1 c2 c3 c4 c5 c6 c7 c8 c9 c10 c11 c12 c13 c14 c15 c16 c17 c18 : Value) (k d n f o p q u m sn sd fo fn : Int) :
    Sem.run Tryz.prog (stAct (.pointer (some ⟨w.heap.size, 0, none⟩)) (.agg #[.int .i64 k, .int .i64 d, .int .i64 n, .int .i64 f, .int .i64 o, .int .i64 p, .int .i64 q, .int .i64 u, .int .i64 m, .int .i64 sn, .int .i64 sd, .slice none 0 0, .slice none 0 0, .slice none 0 0, .slice none 0 0, .int .i64 fo, .int .i64 fn, .slice none 0 0, .slice none 0 0])) (w.alloc (.cells #[c0, c1, c2, c3, c4, c5, c6, c7, c8, c9, c10, c11, c12, c13, c14, c15, c16, c17, c18] 57)) = .ok () (w.alloc (.cells #[.int .i64 k, .int .i64 d, .int .i64 n, .int .i64 f, .int .i64 o, .int .i64 p, .int .i64 q, .int .i64 u, .int .i64 m, .int .i64 sn, .int .i64 sd, .slice none 0 0, .slice none 0 0, .slice none 0 0, .slice none 0 0, .int .i64 fo, .int .i64 fn, .slice none 0 0, .slice none 0 0] 57)) := by
  have h : (w.alloc (.cells #[c0, c1, c2, c3, c4, c5, c6, c7, c8, c9, c10, c11, c12, c13, c14, c15, c16, c17, c18] 57)).heap[w.heap.size]? = some (.cells #[c0, c1, c2, c3, c4, c5, c6, c7, c8, c9, c10, c11, c12, c13, c14, c15, c16, c17, c18] 57 (0, 0)) := heap_alloc_last _ _
  have := run_stAct h rfl ⟨k, d, n, f, o, p, q, u, m, sn, sd, Sv.none, Sv.none, Sv.none, Sv.none, fo, fn, Sv.none, Sv.none⟩
  rw [show (w.alloc (.cells #[.int .i64 k, .int .i64 d, .int .i64 n, .int .i64 f, .int .i64 o, .int .i64 p, .int .i64 q, .int .i64 u, .int .i64 m, .int .i64 sn, .int .i64 sd, .slice none 0 0, .slice none 0 0, .slice none 0 0, .slice none 0 0, .int .i64 fo, .int .i64 fn, .slice none 0 0, .slice none 0 0] 57)) = (w.alloc (.cells #[c0, c1, c2, c3, c4, c5, c6, c7, c8, c9, c10, c11, c12, c13, c14, c15, c16, c17, c18] 57)).setRow w.heap.size #[.int .i64 k, .int .i64 d, .int .i64 n, .int .i64 f, .int .i64 o, .int .i64 p, .int .i64 q, .int .i64 u, .int .i64 m, .int .i64 sn, .int .i64 sd, .slice none 0 0, .slice none 0 0, .slice none 0 0, .slice none 0 0, .int .i64 fo, .int .i64 fn, .slice none 0 0, .slice none 0 0] from (World.setRow_alloc_new w _ _ 57).symm]
  exact this
theorem act_fr {W w : World} {A : Assn} {q : Nat} {x : Ac} (h : Sat W w (sep (blk q (.cells x.cells.toArray 57 (0, 0))) A)) (i : Nat) (v : Value) (hv : x.cells[i]? = some v) : w.cell? ⟨q, i, none⟩ = some v ∧ w.frozen? ⟨q, i, none⟩ = false :=
  ⟨by rw [h.cell i]; simpa using hv, h.unfrozen i⟩
theorem act_ld {W w : World} {A : Assn} {q : Nat} {x : Ac} (h : Sat W w (sep (blk q (.cells x.cells.toArray 57 (0, 0))) A)) :
    Sem.run Tryz.prog (ldAct (.pointer (some ⟨q, 0, none⟩))) w = .ok (.agg #[.int .i64 x.k, .int .i64 x.d, .int .i64 x.n, .int .i64 x.f, .int .i64 x.o, .int .i64 x.p, .int .i64 x.q, .int .i64 x.u, .int .i64 x.m, .int .i64 x.sn, .int .i64 x.sd, .slice x.td.a x.td.n x.td.c, .slice x.tc.a x.tc.n x.tc.c, .slice x.cl.a x.cl.n x.cl.c, .slice x.ea.a x.ea.n x.ea.c, .int .i64 x.fo, .int .i64 x.fn, .slice x.fi.a x.fi.n x.fi.c, .slice x.fk.a x.fk.n x.fk.c]) w :=
  run_ldAct fun i v hv => (act_fr h i v hv).1
theorem act_wr {W w : World} {A : Assn} {q : Nat} {cur : Array Value} (hs : cur.size = 19) (h : Sat W w (sep (blk q (.cells cur 57 (0, 0))) A)) (k d n f o p qq u m sn sd fo fn : Int) :
    ∃ w', Sem.run Tryz.prog (stAct (.pointer (some ⟨q, 0, none⟩)) (.agg #[.int .i64 k, .int .i64 d, .int .i64 n, .int .i64 f, .int .i64 o, .int .i64 p, .int .i64 qq, .int .i64 u, .int .i64 m, .int .i64 sn, .int .i64 sd, .slice none 0 0, .slice none 0 0, .slice none 0 0, .slice none 0 0, .int .i64 fo, .int .i64 fn, .slice none 0 0, .slice none 0 0])) w = .ok () w' ∧ Sat W w' (sep (blk q (.cells (Ac.cells ⟨k, d, n, f, o, p, qq, u, m, sn, sd, Sv.none, Sv.none, Sv.none, Sv.none, fo, fn, Sv.none, Sv.none⟩).toArray 57 (0, 0))) A) :=
  ⟨_, run_stAct h.blk_heap hs ⟨k, d, n, f, o, p, qq, u, m, sn, sd, Sv.none, Sv.none, Sv.none, Sv.none, fo, fn, Sv.none, Sv.none⟩, h.setRow _⟩
end Go.Proofs.YtfapiopnjllnnaaGreatDoor
/- A row of ratios in memory, its places by a function. Plain Lean, no program in sight. -/
namespace PA
open Go Go.RowKit
def rrow (N : Nat) (f : Nat → Rt) : List Value := (List.range N).flatMap fun i => [.int .i64 (f i).n, .int .i64 (f i).d]
def setR (f : Nat → Rt) (i : Nat) (r : Rt) : Nat → Rt := fun k => if k = i then r else f k
theorem rrow_succ (N : Nat) (f : Nat → Rt) : rrow (N + 1) f = rrow N f ++ [.int .i64 (f N).n, .int .i64 (f N).d] := by
  unfold rrow
  rw [List.range_succ, List.flatMap_append]
  simp
theorem rrow_len (N : Nat) (f : Nat → Rt) : (rrow N f).length = N * 2 := by
  induction N with
  | zero => rfl
  | succ N ih => rw [rrow_succ, List.length_append, ih]; simp; omega
theorem rrow_at : ∀ (N : Nat) (f : Nat → Rt) (i : Nat), i < N → (rrow N f)[i * 2]? = some (.int .i64 (f i).n) ∧ (rrow N f)[i * 2 + 1]? = some (.int .i64 (f i).d)
  | 0, _, _, h => by omega
  | N + 1, f, i, h => by
    rw [rrow_succ]
    by_cases hi : i < N
    · have := rrow_at N f i hi
      rw [List.getElem?_append_left (by rw [rrow_len]; omega), List.getElem?_append_left (by rw [rrow_len]; omega)]
      exact this
    · obtain rfl : i = N := by omega
      rw [List.getElem?_append_right (by rw [rrow_len]; omega), List.getElem?_append_right (by rw [rrow_len]; omega), rrow_len, Nat.sub_self, Nat.add_sub_cancel_left]
      exact ⟨rfl, rfl⟩
theorem rrow_congr {N : Nat} {f g : Nat → Rt} (h : ∀ i, i < N → f i = g i) : rrow N f = rrow N g := by
  induction N with
  | zero => rfl
  | succ N ih => rw [rrow_succ, rrow_succ, ih fun i hi => h i (by omega), h N (by omega)]
theorem rrow_set : ∀ (N : Nat) (f : Nat → Rt) (i : Nat) (r : Rt), i < N → ((rrow N f).set (i * 2) (.int .i64 r.n)).set (i * 2 + 1) (.int .i64 r.d) = rrow N (setR f i r)
  | 0, _, _, _, h => by omega
  | N + 1, f, i, r, h => by
    rw [rrow_succ, rrow_succ]
    by_cases hi : i < N
    · have hl := rrow_len N f
      rw [List.set_append_left _ _ (by omega), List.set_append_left _ _ (by rw [List.length_set]; omega), rrow_set N f i r hi]
      have e : setR f i r N = f N := by unfold setR; rw [if_neg (by omega)]
      rw [e]
    · obtain rfl : i = N := by omega
      have hl := rrow_len i f
      have e : rrow i (setR f i r) = rrow i f := rrow_congr fun k hk => by unfold setR; rw [if_neg (by omega)]
      have e2 : setR f i r i = r := by unfold setR; rw [if_pos rfl]
      rw [e, e2, List.set_append_right _ _ (by omega), List.set_append_right _ _ (by omega), hl, Nat.sub_self, Nat.add_sub_cancel_left]
      rfl
def rblk (t g N : Nat) (f : Nat → Rt) : Assn := blk g (.cells (rrow N f).toArray t (0, 0))
section
variable {W w : World} {A : Assn} {t g N : Nat} {f : Nat → Rt}
theorem Sat.rb_at (h : Sat W w (sep (rblk t g N f) A)) (i : Nat) (hi : i < N) : w.cell? ⟨g, i * 2, none⟩ = some (.int .i64 (f i).n) ∧ w.cell? ⟨g, i * 2 + 1, none⟩ = some (.int .i64 (f i).d) := by
  have := rrow_at N f i hi
  exact ⟨by rw [Sat.cell h]; simpa using this.1, by rw [Sat.cell h]; simpa using this.2⟩
theorem Sat.rb_set (h : Sat W w (sep (rblk t g N f) A)) (i : Nat) (hi : i < N) (r : Rt) : Sat W ((w.setCell ⟨g, i * 2, none⟩ (.int .i64 r.n)).setCell ⟨g, i * 2 + 1, none⟩ (.int .i64 r.d)) (sep (rblk t g N (setR f i r)) A) := by
  have h2 := (Sat.setCell h (i * 2) (.int .i64 r.n)).setCell (i * 2 + 1) (.int .i64 r.d)
  unfold rblk
  rw [← rrow_set N f i r hi]
  simpa only [List.setIfInBounds_toArray] using h2
end
end PA
