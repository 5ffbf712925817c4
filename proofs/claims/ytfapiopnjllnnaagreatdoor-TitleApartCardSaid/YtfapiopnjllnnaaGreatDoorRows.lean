/-
  NARROWER THAN 'FOR EVERY INPUT', by the rows' own cells (each row's printed sentence says how): TitleOwners: laid · TitleLater: laid · TitleStays: laid · TitleWhole: laid · TitleChain: laid · TitleHolds: laid · TitleOrder: laid · TitleApart: laid.
  DERIVED. THE GIVEN ROWS OF THIS SEAT. 8 by the template 'for every input the law returns true; each argument reads behind the call as it read before'; 0 by the template 'total and deterministic' (their statements: YtfapiopnjllnnaaGreatDoorTotals.lean).
  GIVEN WITH THE SEED: the statements are not yours to turn. If you find one false, say at which input.
  Laid BY PROGRAM, IN A SANDBOX (cutbox-rows.mjs): the forced cells as the released guide's own fill.sh prints them over the translation 5587ec4e33f77f90… (all of the seat's roots in one cut). By AI agents, Wed Nov 11 2026. No macro, syntax, notation, axiom, sorry.
-/
import Derived.Test.YtfapiopnjllnnaaGreatDoorChecked
import GoSem.Claim
import GoSem.ClaimJoined
import GoSem.ClaimMapViews
import Derived.JoinedTies
import Derived.KernelRfl
namespace Go.Proofs.YtfapiopnjllnnaaGreatDoor
/- THE CELL 'sum', in the pinned program and in every row, IS THE sha256 OF THE DUMP (.gsa) THAT YtfapiopnjllnnaaGreatDoorProg.lean LOADS. Nothing in Lean hashes anything: it is a label: what it is worth is what the hold of that sum in a sandbox is worth. -/
noncomputable def Tryz.pinned : Pinned := { name := "ytfapiopnjllnnaagreatdoor", sum := "5587ec4e33f77f908d408296bec0da503643ae0b44fcdddd8fdad12f2f7d2ecd", checked := Tryz.checked }
namespace Rows
def none {H : Type} : Left H := { results := [], args := [] }

/- WHAT THE LISTED PACKAGE-LEVEL VARIABLES READ AS WHEN THE CALL BEGINS. Each datum BY PROGRAM (the guide's laid-datum.mjs) off the statement by which the dump's own 'gosem.cut.vars' lays the variable. In a bare row this is a premise. The card (YtfapiopnjllnnaaGreatDoorCards.lean) ties it to the program's text. -/
def laid_priorart_acts_fields {H : Type} : DataW H := .agg [.lit (.int .i64 655), .lit (.int .i64 1), .lit (.int .i64 1), .lit (.int .i64 257), .lit (.int .i64 61), .lit (.int .i64 20), .lit (.int .i64 17), .lit (.int .i64 17), .lit (.int .i64 49), .lit (.int .i64 17), .lit (.int .i64 1), .lit (.int .i64 1), .lit (.int .i64 5), .lit (.int .i64 281), .lit (.int .i64 5), .lit (.int .i64 257), .lit (.int .i64 77), .lit (.int .i64 29), .lit (.int .i64 17), .lit (.int .i64 1024), .lit (.int .i64 18), .lit (.int .i64 50)]

/-- 'priorartlaw25.TitleOwners': WHATEVER THE INPUT: true; the input reads as it did. -/
def titleOwnersSpec : ChangeSpec := { name := "titleOwners", fn := fun _ => fun
  | [d1, d2, d3, d4] => { results := [.lit (.bool true)], args := [d1, d2, d3, d4] }
  | _ => none }
def titleOwnersRow : OpenClaim := { program := "ytfapiopnjllnnaagreatdoor", sum := "5587ec4e33f77f908d408296bec0da503643ae0b44fcdddd8fdad12f2f7d2ecd", func := "priorart/priorartlaw25.TitleOwners", spec := "titleOwners", unfollowed := true, recurses := true, named := ["priorart/acts.fields"], apart := false, laid := [("priorart/acts.fields", laid_priorart_acts_fields)] }
def TitleOwnersSaid : Prop := titleOwnersRow.holds Tryz.pinned (OpenSpec.ofChange titleOwnersSpec)

/-- ITS FALSE NEIGHBOUR: 'it returns false'. Refute it at one input. -/
def titleOwnersWrong : ChangeSpec := { name := "titleOwners", fn := fun _ => fun
  | [d1, d2, d3, d4] => { results := [.lit (.bool false)], args := [d1, d2, d3, d4] }
  | _ => none }
def TitleOwnersWrongFalsely : Prop := titleOwnersRow.holds Tryz.pinned (OpenSpec.ofChange titleOwnersWrong)

/-- 'priorartlaw25.TitleLater': WHATEVER THE INPUT: true; the input reads as it did. -/
def titleLaterSpec : ChangeSpec := { name := "titleLater", fn := fun _ => fun
  | [d1, d2, d3] => { results := [.lit (.bool true)], args := [d1, d2, d3] }
  | _ => none }
def titleLaterRow : OpenClaim := { program := "ytfapiopnjllnnaagreatdoor", sum := "5587ec4e33f77f908d408296bec0da503643ae0b44fcdddd8fdad12f2f7d2ecd", func := "priorart/priorartlaw25.TitleLater", spec := "titleLater", unfollowed := true, recurses := true, named := ["priorart/acts.fields"], apart := false, laid := [("priorart/acts.fields", laid_priorart_acts_fields)] }
def TitleLaterSaid : Prop := titleLaterRow.holds Tryz.pinned (OpenSpec.ofChange titleLaterSpec)

/-- ITS FALSE NEIGHBOUR: 'it returns false'. Refute it at one input. -/
def titleLaterWrong : ChangeSpec := { name := "titleLater", fn := fun _ => fun
  | [d1, d2, d3] => { results := [.lit (.bool false)], args := [d1, d2, d3] }
  | _ => none }
def TitleLaterWrongFalsely : Prop := titleLaterRow.holds Tryz.pinned (OpenSpec.ofChange titleLaterWrong)

/-- 'priorartlaw25.TitleStays': WHATEVER THE INPUT: true; the input reads as it did. -/
def titleStaysSpec : ChangeSpec := { name := "titleStays", fn := fun _ => fun
  | [d1, d2, d3, d4] => { results := [.lit (.bool true)], args := [d1, d2, d3, d4] }
  | _ => none }
def titleStaysRow : OpenClaim := { program := "ytfapiopnjllnnaagreatdoor", sum := "5587ec4e33f77f908d408296bec0da503643ae0b44fcdddd8fdad12f2f7d2ecd", func := "priorart/priorartlaw25.TitleStays", spec := "titleStays", unfollowed := true, recurses := true, named := ["priorart/acts.fields"], apart := false, laid := [("priorart/acts.fields", laid_priorart_acts_fields)] }
def TitleStaysSaid : Prop := titleStaysRow.holds Tryz.pinned (OpenSpec.ofChange titleStaysSpec)

/-- ITS FALSE NEIGHBOUR: 'it returns false'. Refute it at one input. -/
def titleStaysWrong : ChangeSpec := { name := "titleStays", fn := fun _ => fun
  | [d1, d2, d3, d4] => { results := [.lit (.bool false)], args := [d1, d2, d3, d4] }
  | _ => none }
def TitleStaysWrongFalsely : Prop := titleStaysRow.holds Tryz.pinned (OpenSpec.ofChange titleStaysWrong)

/-- 'priorartlaw25.TitleWhole': WHATEVER THE INPUT: true; the input reads as it did. -/
def titleWholeSpec : ChangeSpec := { name := "titleWhole", fn := fun _ => fun
  | [d1, d2, d3] => { results := [.lit (.bool true)], args := [d1, d2, d3] }
  | _ => none }
def titleWholeRow : OpenClaim := { program := "ytfapiopnjllnnaagreatdoor", sum := "5587ec4e33f77f908d408296bec0da503643ae0b44fcdddd8fdad12f2f7d2ecd", func := "priorart/priorartlaw25.TitleWhole", spec := "titleWhole", unfollowed := true, recurses := true, named := ["priorart/acts.fields"], apart := false, laid := [("priorart/acts.fields", laid_priorart_acts_fields)] }
def TitleWholeSaid : Prop := titleWholeRow.holds Tryz.pinned (OpenSpec.ofChange titleWholeSpec)

/-- ITS FALSE NEIGHBOUR: 'it returns false'. Refute it at one input. -/
def titleWholeWrong : ChangeSpec := { name := "titleWhole", fn := fun _ => fun
  | [d1, d2, d3] => { results := [.lit (.bool false)], args := [d1, d2, d3] }
  | _ => none }
def TitleWholeWrongFalsely : Prop := titleWholeRow.holds Tryz.pinned (OpenSpec.ofChange titleWholeWrong)

/-- 'priorartlaw25.TitleChain': WHATEVER THE INPUT: true; the input reads as it did. -/
def titleChainSpec : ChangeSpec := { name := "titleChain", fn := fun _ => fun
  | [d1, d2] => { results := [.lit (.bool true)], args := [d1, d2] }
  | _ => none }
def titleChainRow : OpenClaim := { program := "ytfapiopnjllnnaagreatdoor", sum := "5587ec4e33f77f908d408296bec0da503643ae0b44fcdddd8fdad12f2f7d2ecd", func := "priorart/priorartlaw25.TitleChain", spec := "titleChain", unfollowed := true, recurses := true, named := ["priorart/acts.fields"], apart := false, laid := [("priorart/acts.fields", laid_priorart_acts_fields)] }
def TitleChainSaid : Prop := titleChainRow.holds Tryz.pinned (OpenSpec.ofChange titleChainSpec)

/-- ITS FALSE NEIGHBOUR: 'it returns false'. Refute it at one input. -/
def titleChainWrong : ChangeSpec := { name := "titleChain", fn := fun _ => fun
  | [d1, d2] => { results := [.lit (.bool false)], args := [d1, d2] }
  | _ => none }
def TitleChainWrongFalsely : Prop := titleChainRow.holds Tryz.pinned (OpenSpec.ofChange titleChainWrong)

/-- 'priorartlaw25.TitleHolds': WHATEVER THE INPUT: true; the input reads as it did. -/
def titleHoldsSpec : ChangeSpec := { name := "titleHolds", fn := fun _ => fun
  | [d1, d2, d3, d4, d5] => { results := [.lit (.bool true)], args := [d1, d2, d3, d4, d5] }
  | _ => none }
def titleHoldsRow : OpenClaim := { program := "ytfapiopnjllnnaagreatdoor", sum := "5587ec4e33f77f908d408296bec0da503643ae0b44fcdddd8fdad12f2f7d2ecd", func := "priorart/priorartlaw25.TitleHolds", spec := "titleHolds", unfollowed := true, recurses := true, named := ["priorart/acts.fields"], apart := false, laid := [("priorart/acts.fields", laid_priorart_acts_fields)] }
def TitleHoldsSaid : Prop := titleHoldsRow.holds Tryz.pinned (OpenSpec.ofChange titleHoldsSpec)

/-- ITS FALSE NEIGHBOUR: 'it returns false'. Refute it at one input. -/
def titleHoldsWrong : ChangeSpec := { name := "titleHolds", fn := fun _ => fun
  | [d1, d2, d3, d4, d5] => { results := [.lit (.bool false)], args := [d1, d2, d3, d4, d5] }
  | _ => none }
def TitleHoldsWrongFalsely : Prop := titleHoldsRow.holds Tryz.pinned (OpenSpec.ofChange titleHoldsWrong)

/-- 'priorartlaw25.TitleOrder': WHATEVER THE INPUT: true; the input reads as it did. -/
def titleOrderSpec : ChangeSpec := { name := "titleOrder", fn := fun _ => fun
  | [d1, d2, d3, d4, d5] => { results := [.lit (.bool true)], args := [d1, d2, d3, d4, d5] }
  | _ => none }
def titleOrderRow : OpenClaim := { program := "ytfapiopnjllnnaagreatdoor", sum := "5587ec4e33f77f908d408296bec0da503643ae0b44fcdddd8fdad12f2f7d2ecd", func := "priorart/priorartlaw25.TitleOrder", spec := "titleOrder", unfollowed := true, recurses := true, named := ["priorart/acts.fields"], apart := false, laid := [("priorart/acts.fields", laid_priorart_acts_fields)] }
def TitleOrderSaid : Prop := titleOrderRow.holds Tryz.pinned (OpenSpec.ofChange titleOrderSpec)

/-- ITS FALSE NEIGHBOUR: 'it returns false'. Refute it at one input. -/
def titleOrderWrong : ChangeSpec := { name := "titleOrder", fn := fun _ => fun
  | [d1, d2, d3, d4, d5] => { results := [.lit (.bool false)], args := [d1, d2, d3, d4, d5] }
  | _ => none }
def TitleOrderWrongFalsely : Prop := titleOrderRow.holds Tryz.pinned (OpenSpec.ofChange titleOrderWrong)

/-- 'priorartlaw25.TitleApart': WHATEVER THE INPUT: true; the input reads as it did. -/
def titleApartSpec : ChangeSpec := { name := "titleApart", fn := fun _ => fun
  | [d1, d2, d3] => { results := [.lit (.bool true)], args := [d1, d2, d3] }
  | _ => none }
def titleApartRow : OpenClaim := { program := "ytfapiopnjllnnaagreatdoor", sum := "5587ec4e33f77f908d408296bec0da503643ae0b44fcdddd8fdad12f2f7d2ecd", func := "priorart/priorartlaw25.TitleApart", spec := "titleApart", unfollowed := true, recurses := true, named := ["priorart/acts.fields"], apart := false, laid := [("priorart/acts.fields", laid_priorart_acts_fields)] }
def TitleApartSaid : Prop := titleApartRow.holds Tryz.pinned (OpenSpec.ofChange titleApartSpec)

/-- ITS FALSE NEIGHBOUR: 'it returns false'. Refute it at one input. -/
def titleApartWrong : ChangeSpec := { name := "titleApart", fn := fun _ => fun
  | [d1, d2, d3] => { results := [.lit (.bool false)], args := [d1, d2, d3] }
  | _ => none }
def TitleApartWrongFalsely : Prop := titleApartRow.holds Tryz.pinned (OpenSpec.ofChange titleApartWrong)

/- THE SECOND FORM. 'bulk': how many values and letters a reading holds, each counted each time it is reached (what is shared counts as often as it is met; a slice's spare places count too). A statement '..UptoSaid' is the law's where the arguments, and the package variables that the reading takes, are together of bulk at most 1048576: NARROWER than '..Said'. Prove '..Said' where nothing that the law and all that it calls make is longer than what came in: it says more and counts as full. Else prove '..UptoSaid'. A law counts once. -/
mutual
def uptoBulk {H : Type} : DataW H → Nat
  | .lit (.string bytes) => bytes.length + 1
  | .lit _ => 1
  | .nil => 1
  | .ptr d => uptoBulk d + 1
  | .slice elems spare => uptoBulkAll elems + uptoBulkAll spare + 1
  | .agg parts => uptoBulkAll parts + 1
  | .iface _ d => uptoBulk d + 1
  | .map entries => uptoBulkEntries entries + 1
  | .held _ => 1
def uptoBulkAll {H : Type} : List (DataW H) → Nat
  | [] => 0
  | d :: r => uptoBulk d + uptoBulkAll r
def uptoBulkEntries {H : Type} : List (Lit × DataW H) → Nat
  | [] => 0
  | x :: r => uptoBulkEntry x + uptoBulkEntries r
def uptoBulkEntry {H : Type} : Lit × DataW H → Nat
  | (.string bytes, d) => bytes.length + uptoBulk d + 1
  | (_, d) => uptoBulk d + 1
 end
def uptoSmall : (H : Type) → List (DataW H) → Bool := fun _ ds => decide (uptoBulkAll ds ≤ 1048576)
def OpenSpec.upto (s : _root_.Go.ChangeSpec) : _root_.Go.OpenSpec := { _root_.Go.OpenSpec.ofChange s with cond := some uptoSmall }

/-- 'priorartlaw25.TitleOwners', WHERE WHAT IT READS IS OF BULK AT MOST 1048576: true; the input reads as it did. -/
def titleOwnersUptoRow : OpenClaim := { program := "ytfapiopnjllnnaagreatdoor", sum := "5587ec4e33f77f908d408296bec0da503643ae0b44fcdddd8fdad12f2f7d2ecd", func := "priorart/priorartlaw25.TitleOwners", spec := "titleOwners", unfollowed := true, recurses := true, named := ["priorart/acts.fields"], apart := false, laid := [("priorart/acts.fields", laid_priorart_acts_fields)], narrowed := true }
def TitleOwnersUptoSaid : Prop := titleOwnersUptoRow.holds Tryz.pinned (OpenSpec.upto titleOwnersSpec)

/-- 'priorartlaw25.TitleLater', WHERE WHAT IT READS IS OF BULK AT MOST 1048576: true; the input reads as it did. -/
def titleLaterUptoRow : OpenClaim := { program := "ytfapiopnjllnnaagreatdoor", sum := "5587ec4e33f77f908d408296bec0da503643ae0b44fcdddd8fdad12f2f7d2ecd", func := "priorart/priorartlaw25.TitleLater", spec := "titleLater", unfollowed := true, recurses := true, named := ["priorart/acts.fields"], apart := false, laid := [("priorart/acts.fields", laid_priorart_acts_fields)], narrowed := true }
def TitleLaterUptoSaid : Prop := titleLaterUptoRow.holds Tryz.pinned (OpenSpec.upto titleLaterSpec)

/-- 'priorartlaw25.TitleStays', WHERE WHAT IT READS IS OF BULK AT MOST 1048576: true; the input reads as it did. -/
def titleStaysUptoRow : OpenClaim := { program := "ytfapiopnjllnnaagreatdoor", sum := "5587ec4e33f77f908d408296bec0da503643ae0b44fcdddd8fdad12f2f7d2ecd", func := "priorart/priorartlaw25.TitleStays", spec := "titleStays", unfollowed := true, recurses := true, named := ["priorart/acts.fields"], apart := false, laid := [("priorart/acts.fields", laid_priorart_acts_fields)], narrowed := true }
def TitleStaysUptoSaid : Prop := titleStaysUptoRow.holds Tryz.pinned (OpenSpec.upto titleStaysSpec)

/-- 'priorartlaw25.TitleWhole', WHERE WHAT IT READS IS OF BULK AT MOST 1048576: true; the input reads as it did. -/
def titleWholeUptoRow : OpenClaim := { program := "ytfapiopnjllnnaagreatdoor", sum := "5587ec4e33f77f908d408296bec0da503643ae0b44fcdddd8fdad12f2f7d2ecd", func := "priorart/priorartlaw25.TitleWhole", spec := "titleWhole", unfollowed := true, recurses := true, named := ["priorart/acts.fields"], apart := false, laid := [("priorart/acts.fields", laid_priorart_acts_fields)], narrowed := true }
def TitleWholeUptoSaid : Prop := titleWholeUptoRow.holds Tryz.pinned (OpenSpec.upto titleWholeSpec)

/-- 'priorartlaw25.TitleChain', WHERE WHAT IT READS IS OF BULK AT MOST 1048576: true; the input reads as it did. -/
def titleChainUptoRow : OpenClaim := { program := "ytfapiopnjllnnaagreatdoor", sum := "5587ec4e33f77f908d408296bec0da503643ae0b44fcdddd8fdad12f2f7d2ecd", func := "priorart/priorartlaw25.TitleChain", spec := "titleChain", unfollowed := true, recurses := true, named := ["priorart/acts.fields"], apart := false, laid := [("priorart/acts.fields", laid_priorart_acts_fields)], narrowed := true }
def TitleChainUptoSaid : Prop := titleChainUptoRow.holds Tryz.pinned (OpenSpec.upto titleChainSpec)

/-- 'priorartlaw25.TitleHolds', WHERE WHAT IT READS IS OF BULK AT MOST 1048576: true; the input reads as it did. -/
def titleHoldsUptoRow : OpenClaim := { program := "ytfapiopnjllnnaagreatdoor", sum := "5587ec4e33f77f908d408296bec0da503643ae0b44fcdddd8fdad12f2f7d2ecd", func := "priorart/priorartlaw25.TitleHolds", spec := "titleHolds", unfollowed := true, recurses := true, named := ["priorart/acts.fields"], apart := false, laid := [("priorart/acts.fields", laid_priorart_acts_fields)], narrowed := true }
def TitleHoldsUptoSaid : Prop := titleHoldsUptoRow.holds Tryz.pinned (OpenSpec.upto titleHoldsSpec)

/-- 'priorartlaw25.TitleOrder', WHERE WHAT IT READS IS OF BULK AT MOST 1048576: true; the input reads as it did. -/
def titleOrderUptoRow : OpenClaim := { program := "ytfapiopnjllnnaagreatdoor", sum := "5587ec4e33f77f908d408296bec0da503643ae0b44fcdddd8fdad12f2f7d2ecd", func := "priorart/priorartlaw25.TitleOrder", spec := "titleOrder", unfollowed := true, recurses := true, named := ["priorart/acts.fields"], apart := false, laid := [("priorart/acts.fields", laid_priorart_acts_fields)], narrowed := true }
def TitleOrderUptoSaid : Prop := titleOrderUptoRow.holds Tryz.pinned (OpenSpec.upto titleOrderSpec)

/-- 'priorartlaw25.TitleApart', WHERE WHAT IT READS IS OF BULK AT MOST 1048576: true; the input reads as it did. -/
def titleApartUptoRow : OpenClaim := { program := "ytfapiopnjllnnaagreatdoor", sum := "5587ec4e33f77f908d408296bec0da503643ae0b44fcdddd8fdad12f2f7d2ecd", func := "priorart/priorartlaw25.TitleApart", spec := "titleApart", unfollowed := true, recurses := true, named := ["priorart/acts.fields"], apart := false, laid := [("priorart/acts.fields", laid_priorart_acts_fields)], narrowed := true }
def TitleApartUptoSaid : Prop := titleApartUptoRow.holds Tryz.pinned (OpenSpec.upto titleApartSpec)

end Rows
end Go.Proofs.YtfapiopnjllnnaaGreatDoor
