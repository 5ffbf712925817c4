/- The seat's variable 'fields', out of the condition that lists it: nothing of it is used. -/
import Derived.Test.YtfapiopnjllnnaaGreatDoorGTitleChain40
import Derived.Test.YtfapiopnjllnnaaGreatDoorRows
import Derived.ProofKit
import Derived.LaidMore
import Derived.OpenShut
import Derived.Stop.Joined
import Derived.Test.YtfapiopnjllnnaaGreatDoorGTitleChainSTg
import Derived.Test.YtfapiopnjllnnaaGreatDoorGTitleChainSTh
import Derived.Test.YtfapiopnjllnnaaGreatDoorRw
import Derived.Deep.DeepCutAuto
namespace Go.Proofs.YtfapiopnjllnnaaGreatDoor
open Go.ChangeShapes Go.WideShapes Go.ChangeAt Go.RowKit
def laidQ : List (String × DataW Unit) := [("priorart/acts.fields", Rows.laid_priorart_acts_fields)]
theorem door_met (os : Os) (args : Array Value) : laidMetH Tryz.prog laidQ ((World.doorLaid Tryz.prog 14 os).forCall (fun _ _ => 0) ⟨#[], args, []⟩).memory :=
  laidMetH_of_parts3 (fuel := 8) (laidMet_of_run' 8 (by kernel_rfl) (by kernel_rfl)) (by kernel_rfl) (by kernel_rfl)
def WholeOK (_ : World) : Prop := True
theorem of_laid {W : World} (_ : laidMetH Tryz.prog laidQ W) : WholeOK W := trivial
end Go.Proofs.YtfapiopnjllnnaaGreatDoor
/- TitleLater, the walk. -/
namespace Go.Proofs.YtfapiopnjllnnaaGreatDoor
open Go.RowKit PA
attribute [local go_sem ↓] sizeAct
/-- Owners put into a row of shares. -/
def putOwn (f : Nat → Rt) (own : List (Int × Rt)) : Nat → Rt := own.foldl (fun f o => setR f o.1.toNat o.2) f
theorem putOwn_of : ∀ (own : List (Int × Rt)) (f : Nat → Rt), own.Pairwise (fun a b => a.1 < b.1) → (∀ o ∈ own, 0 ≤ o.1) → ∀ k : Nat, putOwn f own k = ((own.find? fun o => decide (o.1 = (k : Int))).map (·.2)).getD (f k)
  | [], _, _, _, _ => rfl
  | o :: own, f, hp, h0, k => by
    have hp' := List.pairwise_cons.1 hp
    have ih := putOwn_of own (setR f o.1.toNat o.2) hp'.2 (fun x hx => h0 x (by simp [hx])) k
    show putOwn (setR f o.1.toNat o.2) own k = _
    rw [ih]
    have ho := h0 o (by simp)
    by_cases e : o.1 = (k : Int)
    · have hn : own.find? (fun o => decide (o.1 = (k : Int))) = none := by
        rw [List.find?_eq_none]
        intro x hx
        have := hp'.1 x hx
        simp; omega
      rw [hn, List.find?_cons_of_pos (by simpa using e)]
      unfold setR
      rw [if_pos (by omega)]; rfl
    · rw [List.find?_cons_of_neg (by simpa using e)]
      have e2 : setR f o.1.toNat o.2 k = f k := by unfold setR; rw [if_neg (by omega)]
      rw [e2]
theorem putOwn_S {S : Shs} {own : List (Int × Rt)} (hok : ShOk S) (ho : OwnOf S own) (h0 : ∀ k, (S k).isSome = true → 0 ≤ k) (k : Nat) : putOwn (fun _ => ⟨0, 1⟩) own k = shareP S k := by
  have hpos : ∀ o ∈ own, 0 ≤ o.1 := fun o h => h0 o.1 (by have := ((ho.mem o.1 o.2).1 h).1; rw [this]; rfl)
  rw [putOwn_of own _ ho.asc hpos k]
  unfold shareP
  cases hf : own.find? (fun o => decide (o.1 = (k : Int))) with
  | some o =>
    have h1 := List.mem_of_find?_eq_some hf
    have h2 : o.1 = (k : Int) := by simpa using List.find?_some hf
    have h3 := ((ho.mem o.1 o.2).1 h1).1
    rw [h2] at h3
    rw [h3]; rfl
  | none =>
    have hn := List.find?_eq_none.1 hf
    cases hs : S (k : Int) with
    | none => rfl
    | some r =>
      have hr := hok _ _ hs
      have hz : r.n = 0 := by
        rcases Int.lt_or_le 0 r.n with h | h
        · exact absurd ((ho.mem k r).2 ⟨hs, h⟩) (fun hm => by have := hn _ hm; simp at this)
        · have := hr.2; omega
      show (⟨0, 1⟩ : Rt) = r
      exact (okR_nil hr.1 hz).symm
/-- Owners among the first numbers. -/
def ownsN (S : Shs) (n : Nat) : List (Int × Rt) := ownsP S ((List.range n).map fun i : Nat => (i : Int))
theorem ownsN_succ (S : Shs) (n : Nat) : ownsN S (n + 1) = ownsN S n ++ ownsP S [(n : Int)] := by
  unfold ownsN ownsP
  rw [List.range_succ, List.map_append, List.filterMap_append]; rfl
theorem ownsN_of {S : Shs} {n : Nat} (h : ∀ k, (S k).isSome = true → 0 ≤ k ∧ k < n) {own : List (Int × Rt)} (ho : OwnOf S own) : own = ownsN S n := by
  refine ho.unique ⟨?_, fun p r => ?_⟩
  · unfold ownsN ownsP
    refine List.Pairwise.filterMap _ ?_ (show ((List.range n).map fun i : Nat => (i : Int)).Pairwise (· < ·) from List.pairwise_map.2 (List.pairwise_lt_range.imp fun h => by omega))
    intro a a' hlt b hb b' hb'
    have e : ∀ (a : Int) (b : Int × Rt), (match S a with | some r => if 0 < r.n then some (a, r) else none | none => none) = some b → b.1 = a := fun a b hb => by
      cases e : S a with
      | none => simp [e] at hb
      | some r => simp only [e] at hb; split at hb <;> simp_all; rw [← hb]
    rw [e a b hb, e a' b' hb']; exact hlt
  · unfold ownsN ownsP
    rw [List.mem_filterMap]
    constructor
    · rintro ⟨a, ha, hm⟩
      cases e : S a with
      | none => simp [e] at hm
      | some r' =>
        simp only [e] at hm
        split at hm
        · rename_i hp
          cases hm
          exact ⟨e, hp⟩
        · cases hm
    · rintro ⟨e, hp⟩
      have hb := h p (by rw [e]; rfl)
      exact ⟨p, List.mem_map.2 ⟨p.toNat, List.mem_range.2 (by omega), by omega⟩, by simp [e, hp]⟩
end Go.Proofs.YtfapiopnjllnnaaGreatDoor
