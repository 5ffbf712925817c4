/- The seat's variable 'whole', out of the condition that lists it. -/
import Derived.Test.YtcmjbjlliehdiaaDoorGAuthmapChecks10
import Derived.Test.YtcmjbjlliehdiaaDoorRows
import Derived.ProofKit
import Derived.LaidMore
import Derived.OpenShut
import Derived.Stop.Joined
namespace Go.Proofs.YtcmjbjlliehdiaaDoor
open Go.ChangeShapes Go.WideShapes Go.ChangeAt Go.RowKit
theorem gWhole : Tryd.prog.globalNamed "priorart/authmap.whole" = some 0 := by kernel_rfl
theorem tWhole : (Tryd.prog.globals[0]?).map (·.type) = some 106 := by kernel_rfl
def laidQ : List (String × DataW Unit) := [("priorart/authmap.whole", Rows.laid_priorart_authmap_whole)]
theorem door_met (os : Os) (args : Array Value) : laidMetH Tryd.prog laidQ ((World.doorLaid Tryd.prog 14 os).forCall (fun _ _ => 0) ⟨#[], args, []⟩).memory :=
  laidMetH_of_parts3 (fuel := 8) (laidMet_of_run' 8 (by kernel_rfl) (by kernel_rfl)) (by kernel_rfl) (by kernel_rfl)
theorem of_laid {W : World} (h : laidMetH Tryd.prog laidQ W) : WholeOK W := by
  rw [MakeChecks.laidMetH_plain _ _ _ (by kernel_rfl)] at h
  obtain ⟨ps, ⟨g0, t0, cs0, f0, p0, q0, hg0, ht0, hv0, hd0, _, _⟩, _, _⟩ := h
  obtain rfl := Option.some.inj (gWhole.symm.trans hg0)
  obtain rfl := Option.some.inj (tWhole.symm.trans ht0)
  have hst := trod_struct2 Tryd.underlying106 hd0
  obtain ⟨y0, y1, n, hx, hl, h0, h1⟩ := hst
  have c3 : Tryd.prog.cellsOf 3 = 1 := by kernel_rfl
  have c2 : Tryd.prog.cellsOf 106 = 2 := by kernel_rfl
  rw [c2] at hl
  dsimp only at h0 h1
  rw [c3] at h0 h1
  obtain ⟨l⟩ := cs0
  match l, hl with
  | [u, v], _ =>
    obtain ⟨k0, e0, e1, _⟩ := DataW.trod_int Tryd.underlying3 h0
    obtain ⟨k1, e2, e3, _⟩ := DataW.trod_int Tryd.underlying3 h1
    simp only [List.drop_zero, List.take_succ_cons, List.take_zero, List.cons.injEq, and_true, List.drop_succ_cons] at e0 e2
    subst e0 e1 e2 e3
    simp only [Rows.laid_priorart_authmap_whole, Prod.mk.injEq, DataW.agg.injEq, List.cons.injEq, DataW.lit.injEq, Lit.int.injEq, true_and, and_true] at hx
    have q0 := World.var?_cell hg0 hv0 0
    have q1 := World.var?_cell hg0 hv0 1
    obtain ⟨⟨rfl, rfl⟩, -⟩ := hx
    exact ⟨by simpa using q0, by simpa using q1⟩
end Go.Proofs.YtcmjbjlliehdiaaDoor
