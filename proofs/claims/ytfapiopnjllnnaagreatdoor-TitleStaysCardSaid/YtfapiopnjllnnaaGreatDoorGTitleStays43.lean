/- What came in: rows of integers and of bytes, as known slices. -/
import Derived.Test.YtfapiopnjllnnaaGreatDoorKn
import Derived.Test.YtfapiopnjllnnaaGreatDoorUtil
import Derived.Test.YtfapiopnjllnnaaGreatDoorGTitleStays42
namespace PA
open Go Go.RowKit
def wm (w : World) : Mem := fun b => w.heap[b]?
theorem Sat.startKn (W : World) : Sat W W (sep (kn (wm W)) emp) :=
  ⟨rfl, rfl, rfl, wm W, Mem.no, fun _ _ h => h, fun _ _ h => h, fun _ _ h => (by simp [Mem.no] at h), Mem.no, Mem.no, fun _ => .inl rfl, (Mem.un_no _).symm, ⟨rfl, Mem.le_refl _⟩, rfl⟩
theorem ints_rel {I : Mem} {v : Value} {ns : List Int} : (rInt.slice 1).rel I [v] ns ↔ ∃ a c, v = .slice a ns.length c ∧ Swf a ns.length c ∧ cellsAt a (ns.map iv) I := by
  constructor
  · rintro ⟨a, c, cells, h1, h2, h3, h4⟩
    cases h1
    rw [(rows_rInt _ _ _).1 h4] at h3
    exact ⟨a, c, rfl, h2, h3⟩
  · rintro ⟨a, c, rfl, h2, h3⟩
    exact ⟨a, c, _, rfl, h2, h3, (rows_rInt _ _ _).2 rfl⟩
theorem cellsAt_of {w : World} {x : Addr} {us : List Value} (h : ∀ j u, us[j]? = some u → w.cell? (x.add j) = some u) : cellsAt (some x) us (wm w) := by
  cases us with
  | nil => exact .inl rfl
  | cons u us =>
    right
    have h0 := h 0 u rfl
    have e0 : x.add 0 = x := rfl
    rw [e0] at h0
    obtain ⟨b, o, sp⟩ := x
    unfold World.cell? at h0
    dsimp only at h0
    cases hb : w.heap[b]? with
    | none => rw [hb] at h0; cases h0
    | some ob =>
      rw [hb] at h0
      cases ob with
      | cells c t f =>
        dsimp only at h0
        cases sp with
        | some q => simp at h0
        | none =>
          refine ⟨b, o, c, t, f, rfl, hb, fun i v hv => ?_⟩
          have hi := h i v hv
          have e : (⟨b, o, none⟩ : Addr).add i = ⟨b, o + i, none⟩ := by unfold Addr.add; split <;> simp_all
          rw [e] at hi
          unfold World.cell? at hi
          dsimp only at hi
          rw [hb] at hi
          simpa using hi
      | _ => cases h0
end PA
namespace Go.Proofs.YtfapiopnjllnnaaGreatDoor
open Go.RowKit PA
def I64' (n : Int) : Prop := -9223372036854775808 ≤ n ∧ n ≤ 9223372036854775807
/-- A row of integers that came in. -/
def IsArg (w : World) (a : Option Addr) (len cap : Nat) (zs : List Int) : Prop :=
  (a = none ∧ len = 0 ∧ cap = 0 ∧ zs = []) ∨
  ∃ x, a = some x ∧ len ≤ cap ∧ cap ≤ maxLen ∧ zs.length = cap ∧ (∀ i, i < zs.length → w.cell? (x.add i) = some (.int .i64 (zs.getD i 0))) ∧ ∀ n ∈ zs, (Lit.int .i64 n).wf = true
theorem argI {w : World} {a : Option Addr} {len cap : Nat} {zs : List Int} (h : IsArg w a len cap zs) :
    ∃ l : List Int, len = l.length ∧ (rInt.slice 1).rel (wm w) [.slice a len cap] l ∧ ∀ n ∈ l, I64' n := by
  rcases h with ⟨rfl, rfl, rfl, rfl⟩ | ⟨x, rfl, h1, h2, h3, h4, h5⟩
  · exact ⟨[], rfl, ints_rel.2 ⟨none, 0, rfl, ⟨Nat.le_refl _, Nat.zero_le _, fun _ => rfl⟩, .inl rfl⟩, fun n hn => by cases hn⟩
  · have hl : len = (zs.take len).length := by simp; omega
    refine ⟨zs.take len, hl, ints_rel.2 ⟨some x, cap, by rw [← hl], ⟨by rw [← hl]; exact h1, h2, fun e => by cases e⟩, cellsAt_of fun j u hu => ?_⟩, fun n hn => ?_⟩
    · rw [List.getElem?_map, List.getElem?_take] at hu
      split at hu
      · rename_i hj
        have hjz : j < zs.length := by omega
        rw [List.getElem?_eq_getElem hjz] at hu
        rw [h4 j hjz, ← hu, List.getD_eq_getElem?_getD, List.getElem?_eq_getElem hjz]
        rfl
      · cases hu
    · exact i64_of_wf (h5 n (List.mem_of_mem_take hn))
/-- A row of bytes that came in. -/
def IsArgB (w : World) (a : Option Addr) (len cap : Nat) (zs : List Int) : Prop :=
  (a = none ∧ len = 0 ∧ cap = 0 ∧ zs = []) ∨
  ∃ x, a = some x ∧ len ≤ cap ∧ cap ≤ maxLen ∧ zs.length = cap ∧ (∀ i, i < zs.length → w.cell? (x.add i) = some (.int .u8 (zs.getD i 0))) ∧ ∀ n ∈ zs, (Lit.int .u8 n).wf = true
theorem argB {w : World} {a : Option Addr} {len cap : Nat} {zs : List Int} (h : IsArgB w a len cap zs) :
    ∃ l : List UInt8, len = l.length ∧ rBytes.rel (wm w) [.slice a len cap] l := by
  rcases h with ⟨rfl, rfl, rfl, rfl⟩ | ⟨x, rfl, h1, h2, h3, h4, h5⟩
  · exact ⟨[], rfl, bytes_rel.2 ⟨none, 0, rfl, ⟨Nat.le_refl _, Nat.zero_le _, fun _ => rfl⟩, .inl rfl⟩⟩
  · have hl : len = ((zs.take len).map fun n => UInt8.ofNat n.toNat).length := by simp; omega
    refine ⟨_, hl, bytes_rel.2 ⟨some x, cap, by rw [← hl], ⟨by rw [← hl]; exact h1, h2, fun e => by cases e⟩, cellsAt_of fun j u hu => ?_⟩⟩
    rw [List.map_map, List.getElem?_map, List.getElem?_take] at hu
    split at hu
    · rename_i hj
      have hjz : j < zs.length := by omega
      rw [List.getElem?_eq_getElem hjz] at hu
      rw [h4 j hjz, ← hu]
      have hw := h5 zs[j] (List.getElem_mem hjz)
      have hb2 : 0 ≤ zs[j] ∧ zs[j] ≤ 255 := bounds_u8 hw
      have e1 : zs.getD j 0 = zs[j] := by rw [List.getD_eq_getElem?_getD, List.getElem?_eq_getElem hjz]; rfl
      rw [e1]
      show some (Value.int .u8 zs[j]) = some (Value.int .u8 ((UInt8.ofNat zs[j].toNat).toNat : Int))
      congr 2
      simp; omega
    · cases hu
end Go.Proofs.YtfapiopnjllnnaaGreatDoor
/- Title's script in plain, and pick. -/
namespace PA
open Go
def pickP (l : List Int) (i : Nat) (n : Int) : Int := match l[i]? with | some x => max 0 (Int.tmod x n) | none => 0
theorem pickP_nat (l : List Int) (i : Nat) (n : Int) (hn : 0 < n) : ∃ k : Nat, pickP l i n = (k : Int) ∧ (k : Int) < n := by
  unfold pickP
  split
  · rename_i x _
    refine ⟨(max 0 (Int.tmod x n)).toNat, by omega, ?_⟩
    have := Int.tmod_lt_of_pos x hn
    omega
  · exact ⟨0, rfl, hn⟩
def shsP : List Rt := [⟨1, 1⟩, ⟨1, 2⟩, ⟨1, 3⟩, ⟨2, 3⟩, ⟨1, 6⟩, ⟨1, 1048576⟩, ⟨1, 1048575⟩]
def act1 (k i d : Nat) : Ac := acNum 16 (95 + (d : Int)) (5 + 2 * (i : Int)) 2 (1 + ((k % 4 : Nat) : Int)) (1 + (((k % 4 + 1 + k / 4 % 3) % 4 : Nat) : Int)) ⟨0, 0⟩
def act2 (k : Nat) (x : Ac) : Ac := if k % 11 = 10 then { x with f := 7 } else x
def act3 (k n : Nat) (x : Ac) : Ac := if k % 5 = 4 then { x with k := 17, u := x.d + ((n % 30 : Nat) : Int) } else { x with sn := (shsP.getD (n % 7) ⟨0, 0⟩).n, sd := (shsP.getD (n % 7) ⟨0, 0⟩).d }
def act4 (k : Nat) (x : Ac) : Ac := if k % 23 = 22 then acNum 1 x.d x.n 2 0 0 ⟨0, 0⟩ else x
def actN (k n d i : Nat) : Ac := act4 k (act3 k n (act2 k (act1 k i d)))
def actP (l : List Int) (i : Nat) : Ac := actN (pickP l (3 * i) 1048576).toNat (pickP l (3 * i + 1) 1048576).toNat (pickP l (3 * i + 2) 40).toNat i
def fil2 : Ac := acNum 0 100 0 2 1 (-1) ⟨0, 0⟩
def fil7 : Ac := acNum 0 90 1 7 2 (-1) ⟨0, 0⟩
def scrN (l : List Int) : Nat := min 12 ((l.length + 2) / 3)
def scrP (l : List Int) : List Ac := [fil2, fil7] ++ (List.range (scrN l)).map (actP l)
end PA
namespace Go.Proofs.YtfapiopnjllnnaaGreatDoor
open Go.RowKit PA
theorem pick25_spec {W w : World} {A : Assn} {I : Mem} (a : Option Addr) (c : Nat) (l : List Int) (i : Nat) (n : Int) (hn0 : 0 < n) (hn1 : n ≤ 9223372036854775807) (hi : i ≤ 1000) (hv : (rInt.slice 1).rel I [.slice a l.length c] l) (hl : ∀ z ∈ l, I64' z) (h : Sat W w (sep (kn I) A)) :
    Calls Tryz.prog 37 #[.slice a l.length c, .int .i64 i, .int .i64 n] w fun e w' => e = .returned (.int .i64 (pickP l i n)) ∧ w = w' := by
  obtain ⟨a', c', e, hsw, hc⟩ := ints_rel.1 hv
  simp only [Value.slice.injEq] at e
  obtain ⟨rfl, -, rfl⟩ := e
  obtain ⟨r, hr⟩ : ∃ r, r = pickP l i n := ⟨_, rfl⟩
  rw [← hr]
  unfold pickP at hr
  have HR := Lib.hid hr
  have hlen : (l.length : Int) ≤ 9223372036854775807 := by
    have h1 := hsw.1; have h2 := hsw.2.1; unfold maxLen at h2; omega
  have hiI : (i : Int) ≤ 1000 := by omega
  by_cases hlt : i < l.length
  · have hltz : ¬ (l.length : Int) ≤ (i : Int) := by omega
    have hltz2 : (i : Int) < (l.length : Int) := by omega
    obtain ⟨b, o, rfl, hcell⟩ := cells_ext hc (fun e => by have := congrArg List.length e; simp at this; rw [this] at hlt; simp at hlt)
    obtain ⟨x, hx⟩ : ∃ x, x = l[i] := ⟨_, rfl⟩
    have c0 := hcell w h.ext i (iv x) (by rw [List.getElem?_map, List.getElem?_eq_getElem hlt, hx]; rfl)
    unfold iv at c0
    have hx64 := hl x (by rw [hx]; exact List.getElem_mem hlt)
    have HX : Hid (l[i]? = some x) := Lib.hid (by rw [List.getElem?_eq_getElem hlt, hx])
    have hn00 : ¬ n = 0 := by omega
    have ht1 : Int.tmod x n < n := Int.tmod_lt_of_pos x hn0
    obtain ⟨t, ht⟩ : ∃ t, t = Int.tmod x n := ⟨_, rfl⟩
    have et : Int.tmod x n = t := ht.symm
    rw [← ht] at ht1
    have HT := Lib.hid ht
    obtain ⟨ll, hll⟩ : ∃ ll, ll = l.length := ⟨_, rfl⟩
    rw [← hll] at hlen hltz hltz2 ⊢
    clear hv hc hcell hl hr hx ht hll h hsw
    go_enter Tryz.func37, Tryz.ntmps37
    go_wp2
    go_ret
    have hrr := HR.out
    rw [HX.out] at hrr
    simp only at hrr
    rw [← HT.out] at hrr
    exact ⟨by rw [hrr]; rfl, rfl⟩
  · have hltz : (l.length : Int) ≤ (i : Int) := by omega
    have HX : Hid (l[i]? = none) := Lib.hid (List.getElem?_eq_none (by omega))
    obtain ⟨ll, hll⟩ : ∃ ll, ll = l.length := ⟨_, rfl⟩
    rw [← hll] at hlen hltz ⊢
    clear hv hc hl hr hll h hsw hlt
    go_enter Tryz.func37, Tryz.ntmps37
    go_wp2
    go_ret
    have hrr := HR.out
    rw [HX.out] at hrr
    exact ⟨by rw [hrr]; rfl, rfl⟩
end Go.Proofs.YtfapiopnjllnnaaGreatDoor
