/- The seat's variable 'fields', out of the condition that lists it. -/
import Derived.Test.YtodipneapffjdaaGreatDoorGActsSortSYo
import Derived.Test.YtodipneapffjdaaGreatDoorRows
import Derived.ProofKit
import Derived.LaidMore
import Derived.OpenShut
import Derived.Stop.Joined
namespace Go.Proofs.YtodipneapffjdaaGreatDoor
open Go.ChangeShapes Go.WideShapes Go.ChangeAt Go.RowKit PA
theorem gFieldsV : Tryz.prog.globalNamed "priorart/acts.fields" = some 0 := by kernel_rfl
theorem tFieldsV : (Tryz.prog.globals[0]?).map (·.type) = some 81 := by kernel_rfl
def laidQ : List (String × DataW Unit) := [("priorart/acts.fields", Rows.laid_priorart_acts_fields)]
theorem door_met (os : Os) (args : Array Value) : laidMetH Tryz.prog laidQ ((World.doorLaid Tryz.prog 14 os).forCall (fun _ _ => 0) ⟨#[], args, []⟩).memory :=
  laidMetH_of_parts3 (fuel := 8) (laidMet_of_run' 8 (by kernel_rfl) (by kernel_rfl)) (by kernel_rfl) (by kernel_rfl)
def WholeOK (W : World) : Prop := FieldsOK W
theorem of_laid {W : World} (h : laidMetH Tryz.prog laidQ W) : WholeOK W := by
  rw [MakeChecks.laidMetH_plain _ _ _ (by kernel_rfl)] at h
  obtain ⟨ps, ⟨g0, t0, cs0, f0, p0, q0, hg0, ht0, hv0, hd0, _, _⟩, _, _⟩ := h
  obtain rfl := Option.some.inj (gFieldsV.symm.trans hg0)
  obtain rfl := Option.some.inj (tFieldsV.symm.trans ht0)
  obtain ⟨xs, m, -, hx, hl, hxl, hi⟩ := DataW.trod_array Tryz.underlying81 hd0
  have c1 : Tryz.prog.cellsOf 3 = 1 := by kernel_rfl
  have c22 : Tryz.prog.cellsOf 81 = 22 := by kernel_rfl
  rw [c22] at hl
  rw [c1] at hi
  have hmap : xs.map (·.1) = fieldsL.map fun n => DataW.lit (.int .i64 n) := by
    simp only [Rows.laid_priorart_acts_fields, Prod.mk.injEq, DataW.agg.injEq] at hx
    exact hx.1.symm
  intro k r hr
  have hk : k < 22 := (List.getElem?_eq_some_iff.1 hr).1
  have h1 := hi k hk
  have hxk : xs[k]? = some xs[k] := List.getElem?_eq_getElem (by omega)
  rw [hxk, Nat.mul_one] at h1
  have hy : xs[k].1 = DataW.lit (.int .i64 r) := by
    have h2 : (xs.map (·.1))[k]? = some xs[k].1 := by rw [List.getElem?_map, hxk]; rfl
    rw [hmap, List.getElem?_map, hr] at h2
    simpa using h2.symm
  obtain ⟨l⟩ := cs0
  simp only at hl h1
  have hcell : ∃ v, l[k]? = some v ∧ (l.drop k).take 1 = [v] := by
    have hkl : k < l.length := by simpa [hl] using hk
    exact ⟨l[k], List.getElem?_eq_getElem hkl, by rw [List.drop_eq_getElem_cons hkl]; rfl⟩
  obtain ⟨v, hv, ht⟩ := hcell
  rw [ht] at h1
  obtain ⟨n, e1, e2, -⟩ := DataW.trod_int Tryz.underlying3 h1
  simp only [List.cons.injEq, and_true] at e1
  rw [e2] at hy
  simp only [DataW.lit.injEq, Lit.int.injEq, true_and] at hy
  have q := World.var?_cell hg0 hv0 k
  rw [← hy, ← e1, ← hv]
  simpa using q
end Go.Proofs.YtodipneapffjdaaGreatDoor
