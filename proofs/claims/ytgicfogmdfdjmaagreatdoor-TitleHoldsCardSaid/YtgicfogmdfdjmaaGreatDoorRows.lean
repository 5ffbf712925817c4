/-
  NARROWER THAN 'FOR EVERY INPUT', by the rows' own cells (each row's printed sentence says how): TitleOwners: laid · TitleHolds: laid.
  DERIVED. THE GIVEN ROWS OF THIS SEAT. 2 by the template 'for every input the law returns true; each argument reads behind the call as it read before'; 0 by the template 'total and deterministic' (their statements: YtgicfogmdfdjmaaGreatDoorTotals.lean).
  GIVEN WITH THE SEED: the statements are not yours to turn. If you find one false, say at which input.
  Laid BY PROGRAM, IN A SANDBOX (cutbox-rows.mjs): the forced cells as the released guide's own fill.sh prints them over the translation 525ba89efb61f2a3… (all of the seat's roots in one cut). By AI agents, Wed Nov 11 2026. No macro, syntax, notation, axiom, sorry.
-/
import Derived.Test.YtgicfogmdfdjmaaGreatDoorChecked
import GoSem.Claim
import GoSem.ClaimJoined
import GoSem.ClaimMapViews
import Derived.JoinedTies
import Derived.KernelRfl
namespace Go.Proofs.YtgicfogmdfdjmaaGreatDoor
/- THE CELL 'sum', in the pinned program and in every row, IS THE sha256 OF THE DUMP (.gsa) THAT YtgicfogmdfdjmaaGreatDoorProg.lean LOADS. Nothing in Lean hashes anything: it is a label: what it is worth is what the hold of that sum in a sandbox is worth. -/
noncomputable def Tryz.pinned : Pinned := { name := "ytgicfogmdfdjmaagreatdoor", sum := "525ba89efb61f2a32475abc16e02cc0a73a97ecbee25fbcf53f3408b97d0af5b", checked := Tryz.checked }
namespace Rows
def none {H : Type} : Left H := { results := [], args := [] }

/- WHAT THE LISTED PACKAGE-LEVEL VARIABLES READ AS WHEN THE CALL BEGINS. Each datum BY PROGRAM (the guide's laid-datum.mjs) off the statement by which the dump's own 'gosem.cut.vars' lays the variable. In a bare row this is a premise. The card (YtgicfogmdfdjmaaGreatDoorCards.lean) ties it to the program's text. -/
def laid_priorart_acts_fields {H : Type} : DataW H := .agg [.lit (.int .i64 655), .lit (.int .i64 1), .lit (.int .i64 1), .lit (.int .i64 257), .lit (.int .i64 61), .lit (.int .i64 20), .lit (.int .i64 17), .lit (.int .i64 17), .lit (.int .i64 49), .lit (.int .i64 17), .lit (.int .i64 1), .lit (.int .i64 1), .lit (.int .i64 5), .lit (.int .i64 281), .lit (.int .i64 5), .lit (.int .i64 257), .lit (.int .i64 77), .lit (.int .i64 29), .lit (.int .i64 17), .lit (.int .i64 1024), .lit (.int .i64 18), .lit (.int .i64 50)]

/-- 'priorartlaw25.TitleOwners': WHATEVER THE INPUT: true; the input reads as it did. -/
def titleOwnersSpec : ChangeSpec := { name := "titleOwners", fn := fun _ => fun
  | [d1, d2, d3, d4] => { results := [.lit (.bool true)], args := [d1, d2, d3, d4] }
  | _ => none }
def titleOwnersRow : OpenClaim := { program := "ytgicfogmdfdjmaagreatdoor", sum := "525ba89efb61f2a32475abc16e02cc0a73a97ecbee25fbcf53f3408b97d0af5b", func := "priorart/priorartlaw25.TitleOwners", spec := "titleOwners", unfollowed := true, recurses := true, named := ["priorart/acts.fields"], apart := false, laid := [("priorart/acts.fields", laid_priorart_acts_fields)] }
def TitleOwnersSaid : Prop := titleOwnersRow.holds Tryz.pinned (OpenSpec.ofChange titleOwnersSpec)

/-- ITS FALSE NEIGHBOUR: 'it returns false'. Refute it at one input. -/
def titleOwnersWrong : ChangeSpec := { name := "titleOwners", fn := fun _ => fun
  | [d1, d2, d3, d4] => { results := [.lit (.bool false)], args := [d1, d2, d3, d4] }
  | _ => none }
def TitleOwnersWrongFalsely : Prop := titleOwnersRow.holds Tryz.pinned (OpenSpec.ofChange titleOwnersWrong)

/-- 'priorartlaw25.TitleHolds': WHATEVER THE INPUT: true; the input reads as it did. -/
def titleHoldsSpec : ChangeSpec := { name := "titleHolds", fn := fun _ => fun
  | [d1, d2, d3, d4, d5] => { results := [.lit (.bool true)], args := [d1, d2, d3, d4, d5] }
  | _ => none }
def titleHoldsRow : OpenClaim := { program := "ytgicfogmdfdjmaagreatdoor", sum := "525ba89efb61f2a32475abc16e02cc0a73a97ecbee25fbcf53f3408b97d0af5b", func := "priorart/priorartlaw25.TitleHolds", spec := "titleHolds", unfollowed := true, recurses := true, named := ["priorart/acts.fields"], apart := false, laid := [("priorart/acts.fields", laid_priorart_acts_fields)] }
def TitleHoldsSaid : Prop := titleHoldsRow.holds Tryz.pinned (OpenSpec.ofChange titleHoldsSpec)

/-- ITS FALSE NEIGHBOUR: 'it returns false'. Refute it at one input. -/
def titleHoldsWrong : ChangeSpec := { name := "titleHolds", fn := fun _ => fun
  | [d1, d2, d3, d4, d5] => { results := [.lit (.bool false)], args := [d1, d2, d3, d4, d5] }
  | _ => none }
def TitleHoldsWrongFalsely : Prop := titleHoldsRow.holds Tryz.pinned (OpenSpec.ofChange titleHoldsWrong)

/- THE SECOND FORM. 'bulk': how many values and letters a reading holds, each counted each time it is reached (what is shared counts as often as it is met; a slice's spare places count too). A statement '..UptoSaid' is the law's where the arguments, and the package variables that the reading takes, are together of bulk at most 1048576: NARROWER than '..Said'. Prove '..Said' where nothing that the law and all that it calls make is longer than what came in: it says more and counts as full. Else prove '..UptoSaid'. A law counts once. -/
mutual
def uptoBulk {H : Type} : DataW H → Nat
  | .lit (.string bytes) => bytes.length + 1
  | .lit _ => 1
  | .nil => 1
  | .ptr d => uptoBulk d + 1
  | .slice elems spare => uptoBulkAll elems + uptoBulkAll spare + 1
  | .agg parts => uptoBulkAll parts + 1
  | .iface _ d => uptoBulk d + 1
  | .map entries => uptoBulkEntries entries + 1
  | .held _ => 1
def uptoBulkAll {H : Type} : List (DataW H) → Nat
  | [] => 0
  | d :: r => uptoBulk d + uptoBulkAll r
def uptoBulkEntries {H : Type} : List (Lit × DataW H) → Nat
  | [] => 0
  | x :: r => uptoBulkEntry x + uptoBulkEntries r
def uptoBulkEntry {H : Type} : Lit × DataW H → Nat
  | (.string bytes, d) => bytes.length + uptoBulk d + 1
  | (_, d) => uptoBulk d + 1
 end
def uptoSmall : (H : Type) → List (DataW H) → Bool := fun _ ds => decide (uptoBulkAll ds ≤ 1048576)
def OpenSpec.upto (s : _root_.Go.ChangeSpec) : _root_.Go.OpenSpec := { _root_.Go.OpenSpec.ofChange s with cond := some uptoSmall }

/-- 'priorartlaw25.TitleOwners', WHERE WHAT IT READS IS OF BULK AT MOST 1048576: true; the input reads as it did. -/
def titleOwnersUptoRow : OpenClaim := { program := "ytgicfogmdfdjmaagreatdoor", sum := "525ba89efb61f2a32475abc16e02cc0a73a97ecbee25fbcf53f3408b97d0af5b", func := "priorart/priorartlaw25.TitleOwners", spec := "titleOwners", unfollowed := true, recurses := true, named := ["priorart/acts.fields"], apart := false, laid := [("priorart/acts.fields", laid_priorart_acts_fields)], narrowed := true }
def TitleOwnersUptoSaid : Prop := titleOwnersUptoRow.holds Tryz.pinned (OpenSpec.upto titleOwnersSpec)

/-- 'priorartlaw25.TitleHolds', WHERE WHAT IT READS IS OF BULK AT MOST 1048576: true; the input reads as it did. -/
def titleHoldsUptoRow : OpenClaim := { program := "ytgicfogmdfdjmaagreatdoor", sum := "525ba89efb61f2a32475abc16e02cc0a73a97ecbee25fbcf53f3408b97d0af5b", func := "priorart/priorartlaw25.TitleHolds", spec := "titleHolds", unfollowed := true, recurses := true, named := ["priorart/acts.fields"], apart := false, laid := [("priorart/acts.fields", laid_priorart_acts_fields)], narrowed := true }
def TitleHoldsUptoSaid : Prop := titleHoldsUptoRow.holds Tryz.pinned (OpenSpec.upto titleHoldsSpec)

end Rows
end Go.Proofs.YtgicfogmdfdjmaaGreatDoor
