/-
  NARROWER THAN 'FOR EVERY INPUT', by the rows' own cells (each row's printed sentence says how): ActsValid: laid · ActsOrder: laid · ActsHash: laid · ActsBytes: laid · ActsChoose: laid · FactsOrder: laid · FactsAsks: laid · FactsBetween: laid · FactsHash: laid · FactsLearns: laid · FactsPast: laid.
  DERIVED. THE GIVEN ROWS OF THIS SEAT. 11 by the template 'for every input the law returns true; each argument reads behind the call as it read before'; 0 by the template 'total and deterministic' (their statements: YthfmaclnccdcbaaGreatDoorTotals.lean).
  GIVEN WITH THE SEED: the statements are not yours to turn. If you find one false, say at which input.
  Laid BY PROGRAM, IN A SANDBOX (cutbox-rows.mjs): the forced cells as the released guide's own fill.sh prints them over the translation feadac2ac1db59ce… (all of the seat's roots in one cut). By AI agents, Wed Nov 11 2026. No macro, syntax, notation, axiom, sorry.
-/
import Derived.Test.YthfmaclnccdcbaaGreatDoorChecked
import GoSem.Claim
import GoSem.ClaimJoined
import GoSem.ClaimMapViews
import Derived.JoinedTies
import Derived.KernelRfl
namespace Go.Proofs.YthfmaclnccdcbaaGreatDoor
/- THE CELL 'sum', in the pinned program and in every row, IS THE sha256 OF THE DUMP (.gsa) THAT YthfmaclnccdcbaaGreatDoorProg.lean LOADS. Nothing in Lean hashes anything: it is a label: what it is worth is what the hold of that sum in a sandbox is worth. -/
noncomputable def Tryz.pinned : Pinned := { name := "ythfmaclnccdcbaagreatdoor", sum := "feadac2ac1db59ce281df3b9bc5801243aaa6ce90c18f7a20dfe9a10429f857d", checked := Tryz.checked }
namespace Rows
def none {H : Type} : Left H := { results := [], args := [] }

/- WHAT THE LISTED PACKAGE-LEVEL VARIABLES READ AS WHEN THE CALL BEGINS. Each datum BY PROGRAM (the guide's laid-datum.mjs) off the statement by which the dump's own 'gosem.cut.vars' lays the variable. In a bare row this is a premise. The card (YthfmaclnccdcbaaGreatDoorCards.lean) ties it to the program's text. -/
def laid_priorart_acts_fields {H : Type} : DataW H := .agg [.lit (.int .i64 655), .lit (.int .i64 1), .lit (.int .i64 1), .lit (.int .i64 257), .lit (.int .i64 61), .lit (.int .i64 20), .lit (.int .i64 17), .lit (.int .i64 17), .lit (.int .i64 49), .lit (.int .i64 17), .lit (.int .i64 1), .lit (.int .i64 1), .lit (.int .i64 5), .lit (.int .i64 281), .lit (.int .i64 5), .lit (.int .i64 257), .lit (.int .i64 77), .lit (.int .i64 29), .lit (.int .i64 17), .lit (.int .i64 1024), .lit (.int .i64 18), .lit (.int .i64 50)]

/-- 'priorartlaw18.ActsValid': WHATEVER THE INPUT: true; the input reads as it did. -/
def actsValidSpec : ChangeSpec := { name := "actsValid", fn := fun _ => fun
  | [d1, d2, d3, d4, d5] => { results := [.lit (.bool true)], args := [d1, d2, d3, d4, d5] }
  | _ => none }
def actsValidRow : OpenClaim := { program := "ythfmaclnccdcbaagreatdoor", sum := "feadac2ac1db59ce281df3b9bc5801243aaa6ce90c18f7a20dfe9a10429f857d", func := "priorart/priorartlaw18.ActsValid", spec := "actsValid", unfollowed := true, recurses := true, named := ["priorart/acts.fields"], apart := false, laid := [("priorart/acts.fields", laid_priorart_acts_fields)] }
def ActsValidSaid : Prop := actsValidRow.holds Tryz.pinned (OpenSpec.ofChange actsValidSpec)

/-- ITS FALSE NEIGHBOUR: 'it returns false'. Refute it at one input. -/
def actsValidWrong : ChangeSpec := { name := "actsValid", fn := fun _ => fun
  | [d1, d2, d3, d4, d5] => { results := [.lit (.bool false)], args := [d1, d2, d3, d4, d5] }
  | _ => none }
def ActsValidWrongFalsely : Prop := actsValidRow.holds Tryz.pinned (OpenSpec.ofChange actsValidWrong)

/-- 'priorartlaw18.ActsOrder': WHATEVER THE INPUT: true; the input reads as it did. -/
def actsOrderSpec : ChangeSpec := { name := "actsOrder", fn := fun _ => fun
  | [d1, d2, d3, d4] => { results := [.lit (.bool true)], args := [d1, d2, d3, d4] }
  | _ => none }
def actsOrderRow : OpenClaim := { program := "ythfmaclnccdcbaagreatdoor", sum := "feadac2ac1db59ce281df3b9bc5801243aaa6ce90c18f7a20dfe9a10429f857d", func := "priorart/priorartlaw18.ActsOrder", spec := "actsOrder", unfollowed := true, recurses := true, named := ["priorart/acts.fields"], apart := false, laid := [("priorart/acts.fields", laid_priorart_acts_fields)] }
def ActsOrderSaid : Prop := actsOrderRow.holds Tryz.pinned (OpenSpec.ofChange actsOrderSpec)

/-- ITS FALSE NEIGHBOUR: 'it returns false'. Refute it at one input. -/
def actsOrderWrong : ChangeSpec := { name := "actsOrder", fn := fun _ => fun
  | [d1, d2, d3, d4] => { results := [.lit (.bool false)], args := [d1, d2, d3, d4] }
  | _ => none }
def ActsOrderWrongFalsely : Prop := actsOrderRow.holds Tryz.pinned (OpenSpec.ofChange actsOrderWrong)

/-- 'priorartlaw18.ActsHash': WHATEVER THE INPUT: true; the input reads as it did. -/
def actsHashSpec : ChangeSpec := { name := "actsHash", fn := fun _ => fun
  | [d1, d2, d3, d4] => { results := [.lit (.bool true)], args := [d1, d2, d3, d4] }
  | _ => none }
def actsHashRow : OpenClaim := { program := "ythfmaclnccdcbaagreatdoor", sum := "feadac2ac1db59ce281df3b9bc5801243aaa6ce90c18f7a20dfe9a10429f857d", func := "priorart/priorartlaw18.ActsHash", spec := "actsHash", unfollowed := true, recurses := true, named := ["priorart/acts.fields"], apart := false, laid := [("priorart/acts.fields", laid_priorart_acts_fields)] }
def ActsHashSaid : Prop := actsHashRow.holds Tryz.pinned (OpenSpec.ofChange actsHashSpec)

/-- ITS FALSE NEIGHBOUR: 'it returns false'. Refute it at one input. -/
def actsHashWrong : ChangeSpec := { name := "actsHash", fn := fun _ => fun
  | [d1, d2, d3, d4] => { results := [.lit (.bool false)], args := [d1, d2, d3, d4] }
  | _ => none }
def ActsHashWrongFalsely : Prop := actsHashRow.holds Tryz.pinned (OpenSpec.ofChange actsHashWrong)

/-- 'priorartlaw18.ActsBytes': WHATEVER THE INPUT: true; the input reads as it did. -/
def actsBytesSpec : ChangeSpec := { name := "actsBytes", fn := fun _ => fun
  | [d1, d2, d3, d4, d5, d6] => { results := [.lit (.bool true)], args := [d1, d2, d3, d4, d5, d6] }
  | _ => none }
def actsBytesRow : OpenClaim := { program := "ythfmaclnccdcbaagreatdoor", sum := "feadac2ac1db59ce281df3b9bc5801243aaa6ce90c18f7a20dfe9a10429f857d", func := "priorart/priorartlaw18.ActsBytes", spec := "actsBytes", unfollowed := true, recurses := true, named := ["priorart/acts.fields"], apart := false, laid := [("priorart/acts.fields", laid_priorart_acts_fields)] }
def ActsBytesSaid : Prop := actsBytesRow.holds Tryz.pinned (OpenSpec.ofChange actsBytesSpec)

/-- ITS FALSE NEIGHBOUR: 'it returns false'. Refute it at one input. -/
def actsBytesWrong : ChangeSpec := { name := "actsBytes", fn := fun _ => fun
  | [d1, d2, d3, d4, d5, d6] => { results := [.lit (.bool false)], args := [d1, d2, d3, d4, d5, d6] }
  | _ => none }
def ActsBytesWrongFalsely : Prop := actsBytesRow.holds Tryz.pinned (OpenSpec.ofChange actsBytesWrong)

/-- 'priorartlaw18.ActsChoose': WHATEVER THE INPUT: true; the input reads as it did. -/
def actsChooseSpec : ChangeSpec := { name := "actsChoose", fn := fun _ => fun
  | [d1, d2, d3, d4, d5, d6] => { results := [.lit (.bool true)], args := [d1, d2, d3, d4, d5, d6] }
  | _ => none }
def actsChooseRow : OpenClaim := { program := "ythfmaclnccdcbaagreatdoor", sum := "feadac2ac1db59ce281df3b9bc5801243aaa6ce90c18f7a20dfe9a10429f857d", func := "priorart/priorartlaw18.ActsChoose", spec := "actsChoose", unfollowed := true, recurses := true, named := ["priorart/acts.fields"], apart := false, laid := [("priorart/acts.fields", laid_priorart_acts_fields)] }
def ActsChooseSaid : Prop := actsChooseRow.holds Tryz.pinned (OpenSpec.ofChange actsChooseSpec)

/-- ITS FALSE NEIGHBOUR: 'it returns false'. Refute it at one input. -/
def actsChooseWrong : ChangeSpec := { name := "actsChoose", fn := fun _ => fun
  | [d1, d2, d3, d4, d5, d6] => { results := [.lit (.bool false)], args := [d1, d2, d3, d4, d5, d6] }
  | _ => none }
def ActsChooseWrongFalsely : Prop := actsChooseRow.holds Tryz.pinned (OpenSpec.ofChange actsChooseWrong)

/-- 'priorartlaw19.FactsOrder': WHATEVER THE INPUT: true; the input reads as it did. -/
def factsOrderSpec : ChangeSpec := { name := "factsOrder", fn := fun _ => fun
  | [d1, d2, d3, d4] => { results := [.lit (.bool true)], args := [d1, d2, d3, d4] }
  | _ => none }
def factsOrderRow : OpenClaim := { program := "ythfmaclnccdcbaagreatdoor", sum := "feadac2ac1db59ce281df3b9bc5801243aaa6ce90c18f7a20dfe9a10429f857d", func := "priorart/priorartlaw19.FactsOrder", spec := "factsOrder", unfollowed := true, recurses := true, named := ["priorart/acts.fields"], apart := false, laid := [("priorart/acts.fields", laid_priorart_acts_fields)] }
def FactsOrderSaid : Prop := factsOrderRow.holds Tryz.pinned (OpenSpec.ofChange factsOrderSpec)

/-- ITS FALSE NEIGHBOUR: 'it returns false'. Refute it at one input. -/
def factsOrderWrong : ChangeSpec := { name := "factsOrder", fn := fun _ => fun
  | [d1, d2, d3, d4] => { results := [.lit (.bool false)], args := [d1, d2, d3, d4] }
  | _ => none }
def FactsOrderWrongFalsely : Prop := factsOrderRow.holds Tryz.pinned (OpenSpec.ofChange factsOrderWrong)

/-- 'priorartlaw19.FactsAsks': WHATEVER THE INPUT: true; the input reads as it did. -/
def factsAsksSpec : ChangeSpec := { name := "factsAsks", fn := fun _ => fun
  | [d1, d2, d3, d4] => { results := [.lit (.bool true)], args := [d1, d2, d3, d4] }
  | _ => none }
def factsAsksRow : OpenClaim := { program := "ythfmaclnccdcbaagreatdoor", sum := "feadac2ac1db59ce281df3b9bc5801243aaa6ce90c18f7a20dfe9a10429f857d", func := "priorart/priorartlaw19.FactsAsks", spec := "factsAsks", unfollowed := true, recurses := true, named := ["priorart/acts.fields"], apart := false, laid := [("priorart/acts.fields", laid_priorart_acts_fields)] }
def FactsAsksSaid : Prop := factsAsksRow.holds Tryz.pinned (OpenSpec.ofChange factsAsksSpec)

/-- ITS FALSE NEIGHBOUR: 'it returns false'. Refute it at one input. -/
def factsAsksWrong : ChangeSpec := { name := "factsAsks", fn := fun _ => fun
  | [d1, d2, d3, d4] => { results := [.lit (.bool false)], args := [d1, d2, d3, d4] }
  | _ => none }
def FactsAsksWrongFalsely : Prop := factsAsksRow.holds Tryz.pinned (OpenSpec.ofChange factsAsksWrong)

/-- 'priorartlaw19.FactsBetween': WHATEVER THE INPUT: true; the input reads as it did. -/
def factsBetweenSpec : ChangeSpec := { name := "factsBetween", fn := fun _ => fun
  | [d1, d2, d3, d4, d5] => { results := [.lit (.bool true)], args := [d1, d2, d3, d4, d5] }
  | _ => none }
def factsBetweenRow : OpenClaim := { program := "ythfmaclnccdcbaagreatdoor", sum := "feadac2ac1db59ce281df3b9bc5801243aaa6ce90c18f7a20dfe9a10429f857d", func := "priorart/priorartlaw19.FactsBetween", spec := "factsBetween", unfollowed := true, recurses := true, named := ["priorart/acts.fields"], apart := false, laid := [("priorart/acts.fields", laid_priorart_acts_fields)] }
def FactsBetweenSaid : Prop := factsBetweenRow.holds Tryz.pinned (OpenSpec.ofChange factsBetweenSpec)

/-- ITS FALSE NEIGHBOUR: 'it returns false'. Refute it at one input. -/
def factsBetweenWrong : ChangeSpec := { name := "factsBetween", fn := fun _ => fun
  | [d1, d2, d3, d4, d5] => { results := [.lit (.bool false)], args := [d1, d2, d3, d4, d5] }
  | _ => none }
def FactsBetweenWrongFalsely : Prop := factsBetweenRow.holds Tryz.pinned (OpenSpec.ofChange factsBetweenWrong)

/-- 'priorartlaw19.FactsHash': WHATEVER THE INPUT: true; the input reads as it did. -/
def factsHashSpec : ChangeSpec := { name := "factsHash", fn := fun _ => fun
  | [d1, d2, d3] => { results := [.lit (.bool true)], args := [d1, d2, d3] }
  | _ => none }
def factsHashRow : OpenClaim := { program := "ythfmaclnccdcbaagreatdoor", sum := "feadac2ac1db59ce281df3b9bc5801243aaa6ce90c18f7a20dfe9a10429f857d", func := "priorart/priorartlaw19.FactsHash", spec := "factsHash", unfollowed := true, recurses := true, named := ["priorart/acts.fields"], apart := false, laid := [("priorart/acts.fields", laid_priorart_acts_fields)] }
def FactsHashSaid : Prop := factsHashRow.holds Tryz.pinned (OpenSpec.ofChange factsHashSpec)

/-- ITS FALSE NEIGHBOUR: 'it returns false'. Refute it at one input. -/
def factsHashWrong : ChangeSpec := { name := "factsHash", fn := fun _ => fun
  | [d1, d2, d3] => { results := [.lit (.bool false)], args := [d1, d2, d3] }
  | _ => none }
def FactsHashWrongFalsely : Prop := factsHashRow.holds Tryz.pinned (OpenSpec.ofChange factsHashWrong)

/-- 'priorartlaw19.FactsLearns': WHATEVER THE INPUT: true; the input reads as it did. -/
def factsLearnsSpec : ChangeSpec := { name := "factsLearns", fn := fun _ => fun
  | [d1, d2, d3, d4, d5] => { results := [.lit (.bool true)], args := [d1, d2, d3, d4, d5] }
  | _ => none }
def factsLearnsRow : OpenClaim := { program := "ythfmaclnccdcbaagreatdoor", sum := "feadac2ac1db59ce281df3b9bc5801243aaa6ce90c18f7a20dfe9a10429f857d", func := "priorart/priorartlaw19.FactsLearns", spec := "factsLearns", unfollowed := true, recurses := true, named := ["priorart/acts.fields"], apart := false, laid := [("priorart/acts.fields", laid_priorart_acts_fields)] }
def FactsLearnsSaid : Prop := factsLearnsRow.holds Tryz.pinned (OpenSpec.ofChange factsLearnsSpec)

/-- ITS FALSE NEIGHBOUR: 'it returns false'. Refute it at one input. -/
def factsLearnsWrong : ChangeSpec := { name := "factsLearns", fn := fun _ => fun
  | [d1, d2, d3, d4, d5] => { results := [.lit (.bool false)], args := [d1, d2, d3, d4, d5] }
  | _ => none }
def FactsLearnsWrongFalsely : Prop := factsLearnsRow.holds Tryz.pinned (OpenSpec.ofChange factsLearnsWrong)

/-- 'priorartlaw19.FactsPast': WHATEVER THE INPUT: true; the input reads as it did. -/
def factsPastSpec : ChangeSpec := { name := "factsPast", fn := fun _ => fun
  | [d1, d2, d3, d4] => { results := [.lit (.bool true)], args := [d1, d2, d3, d4] }
  | _ => none }
def factsPastRow : OpenClaim := { program := "ythfmaclnccdcbaagreatdoor", sum := "feadac2ac1db59ce281df3b9bc5801243aaa6ce90c18f7a20dfe9a10429f857d", func := "priorart/priorartlaw19.FactsPast", spec := "factsPast", unfollowed := true, recurses := true, named := ["priorart/acts.fields"], apart := false, laid := [("priorart/acts.fields", laid_priorart_acts_fields)] }
def FactsPastSaid : Prop := factsPastRow.holds Tryz.pinned (OpenSpec.ofChange factsPastSpec)

/-- ITS FALSE NEIGHBOUR: 'it returns false'. Refute it at one input. -/
def factsPastWrong : ChangeSpec := { name := "factsPast", fn := fun _ => fun
  | [d1, d2, d3, d4] => { results := [.lit (.bool false)], args := [d1, d2, d3, d4] }
  | _ => none }
def FactsPastWrongFalsely : Prop := factsPastRow.holds Tryz.pinned (OpenSpec.ofChange factsPastWrong)

/- THE SECOND FORM. 'bulk': how many values and letters a reading holds, each counted each time it is reached (what is shared counts as often as it is met; a slice's spare places count too). A statement '..UptoSaid' is the law's where the arguments, and the package variables that the reading takes, are together of bulk at most 1048576: NARROWER than '..Said'. Prove '..Said' where nothing that the law and all that it calls make is longer than what came in: it says more and counts as full. Else prove '..UptoSaid'. A law counts once. -/
mutual
def uptoBulk {H : Type} : DataW H → Nat
  | .lit (.string bytes) => bytes.length + 1
  | .lit _ => 1
  | .nil => 1
  | .ptr d => uptoBulk d + 1
  | .slice elems spare => uptoBulkAll elems + uptoBulkAll spare + 1
  | .agg parts => uptoBulkAll parts + 1
  | .iface _ d => uptoBulk d + 1
  | .map entries => uptoBulkEntries entries + 1
  | .held _ => 1
def uptoBulkAll {H : Type} : List (DataW H) → Nat
  | [] => 0
  | d :: r => uptoBulk d + uptoBulkAll r
def uptoBulkEntries {H : Type} : List (Lit × DataW H) → Nat
  | [] => 0
  | x :: r => uptoBulkEntry x + uptoBulkEntries r
def uptoBulkEntry {H : Type} : Lit × DataW H → Nat
  | (.string bytes, d) => bytes.length + uptoBulk d + 1
  | (_, d) => uptoBulk d + 1
 end
def uptoSmall : (H : Type) → List (DataW H) → Bool := fun _ ds => decide (uptoBulkAll ds ≤ 1048576)
def OpenSpec.upto (s : _root_.Go.ChangeSpec) : _root_.Go.OpenSpec := { _root_.Go.OpenSpec.ofChange s with cond := some uptoSmall }

/-- 'priorartlaw18.ActsValid', WHERE WHAT IT READS IS OF BULK AT MOST 1048576: true; the input reads as it did. -/
def actsValidUptoRow : OpenClaim := { program := "ythfmaclnccdcbaagreatdoor", sum := "feadac2ac1db59ce281df3b9bc5801243aaa6ce90c18f7a20dfe9a10429f857d", func := "priorart/priorartlaw18.ActsValid", spec := "actsValid", unfollowed := true, recurses := true, named := ["priorart/acts.fields"], apart := false, laid := [("priorart/acts.fields", laid_priorart_acts_fields)], narrowed := true }
def ActsValidUptoSaid : Prop := actsValidUptoRow.holds Tryz.pinned (OpenSpec.upto actsValidSpec)

/-- 'priorartlaw18.ActsOrder', WHERE WHAT IT READS IS OF BULK AT MOST 1048576: true; the input reads as it did. -/
def actsOrderUptoRow : OpenClaim := { program := "ythfmaclnccdcbaagreatdoor", sum := "feadac2ac1db59ce281df3b9bc5801243aaa6ce90c18f7a20dfe9a10429f857d", func := "priorart/priorartlaw18.ActsOrder", spec := "actsOrder", unfollowed := true, recurses := true, named := ["priorart/acts.fields"], apart := false, laid := [("priorart/acts.fields", laid_priorart_acts_fields)], narrowed := true }
def ActsOrderUptoSaid : Prop := actsOrderUptoRow.holds Tryz.pinned (OpenSpec.upto actsOrderSpec)

/-- 'priorartlaw18.ActsHash', WHERE WHAT IT READS IS OF BULK AT MOST 1048576: true; the input reads as it did. -/
def actsHashUptoRow : OpenClaim := { program := "ythfmaclnccdcbaagreatdoor", sum := "feadac2ac1db59ce281df3b9bc5801243aaa6ce90c18f7a20dfe9a10429f857d", func := "priorart/priorartlaw18.ActsHash", spec := "actsHash", unfollowed := true, recurses := true, named := ["priorart/acts.fields"], apart := false, laid := [("priorart/acts.fields", laid_priorart_acts_fields)], narrowed := true }
def ActsHashUptoSaid : Prop := actsHashUptoRow.holds Tryz.pinned (OpenSpec.upto actsHashSpec)

/-- 'priorartlaw18.ActsBytes', WHERE WHAT IT READS IS OF BULK AT MOST 1048576: true; the input reads as it did. -/
def actsBytesUptoRow : OpenClaim := { program := "ythfmaclnccdcbaagreatdoor", sum := "feadac2ac1db59ce281df3b9bc5801243aaa6ce90c18f7a20dfe9a10429f857d", func := "priorart/priorartlaw18.ActsBytes", spec := "actsBytes", unfollowed := true, recurses := true, named := ["priorart/acts.fields"], apart := false, laid := [("priorart/acts.fields", laid_priorart_acts_fields)], narrowed := true }
def ActsBytesUptoSaid : Prop := actsBytesUptoRow.holds Tryz.pinned (OpenSpec.upto actsBytesSpec)

/-- 'priorartlaw18.ActsChoose', WHERE WHAT IT READS IS OF BULK AT MOST 1048576: true; the input reads as it did. -/
def actsChooseUptoRow : OpenClaim := { program := "ythfmaclnccdcbaagreatdoor", sum := "feadac2ac1db59ce281df3b9bc5801243aaa6ce90c18f7a20dfe9a10429f857d", func := "priorart/priorartlaw18.ActsChoose", spec := "actsChoose", unfollowed := true, recurses := true, named := ["priorart/acts.fields"], apart := false, laid := [("priorart/acts.fields", laid_priorart_acts_fields)], narrowed := true }
def ActsChooseUptoSaid : Prop := actsChooseUptoRow.holds Tryz.pinned (OpenSpec.upto actsChooseSpec)

/-- 'priorartlaw19.FactsOrder', WHERE WHAT IT READS IS OF BULK AT MOST 1048576: true; the input reads as it did. -/
def factsOrderUptoRow : OpenClaim := { program := "ythfmaclnccdcbaagreatdoor", sum := "feadac2ac1db59ce281df3b9bc5801243aaa6ce90c18f7a20dfe9a10429f857d", func := "priorart/priorartlaw19.FactsOrder", spec := "factsOrder", unfollowed := true, recurses := true, named := ["priorart/acts.fields"], apart := false, laid := [("priorart/acts.fields", laid_priorart_acts_fields)], narrowed := true }
def FactsOrderUptoSaid : Prop := factsOrderUptoRow.holds Tryz.pinned (OpenSpec.upto factsOrderSpec)

/-- 'priorartlaw19.FactsAsks', WHERE WHAT IT READS IS OF BULK AT MOST 1048576: true; the input reads as it did. -/
def factsAsksUptoRow : OpenClaim := { program := "ythfmaclnccdcbaagreatdoor", sum := "feadac2ac1db59ce281df3b9bc5801243aaa6ce90c18f7a20dfe9a10429f857d", func := "priorart/priorartlaw19.FactsAsks", spec := "factsAsks", unfollowed := true, recurses := true, named := ["priorart/acts.fields"], apart := false, laid := [("priorart/acts.fields", laid_priorart_acts_fields)], narrowed := true }
def FactsAsksUptoSaid : Prop := factsAsksUptoRow.holds Tryz.pinned (OpenSpec.upto factsAsksSpec)

/-- 'priorartlaw19.FactsBetween', WHERE WHAT IT READS IS OF BULK AT MOST 1048576: true; the input reads as it did. -/
def factsBetweenUptoRow : OpenClaim := { program := "ythfmaclnccdcbaagreatdoor", sum := "feadac2ac1db59ce281df3b9bc5801243aaa6ce90c18f7a20dfe9a10429f857d", func := "priorart/priorartlaw19.FactsBetween", spec := "factsBetween", unfollowed := true, recurses := true, named := ["priorart/acts.fields"], apart := false, laid := [("priorart/acts.fields", laid_priorart_acts_fields)], narrowed := true }
def FactsBetweenUptoSaid : Prop := factsBetweenUptoRow.holds Tryz.pinned (OpenSpec.upto factsBetweenSpec)

/-- 'priorartlaw19.FactsHash', WHERE WHAT IT READS IS OF BULK AT MOST 1048576: true; the input reads as it did. -/
def factsHashUptoRow : OpenClaim := { program := "ythfmaclnccdcbaagreatdoor", sum := "feadac2ac1db59ce281df3b9bc5801243aaa6ce90c18f7a20dfe9a10429f857d", func := "priorart/priorartlaw19.FactsHash", spec := "factsHash", unfollowed := true, recurses := true, named := ["priorart/acts.fields"], apart := false, laid := [("priorart/acts.fields", laid_priorart_acts_fields)], narrowed := true }
def FactsHashUptoSaid : Prop := factsHashUptoRow.holds Tryz.pinned (OpenSpec.upto factsHashSpec)

/-- 'priorartlaw19.FactsLearns', WHERE WHAT IT READS IS OF BULK AT MOST 1048576: true; the input reads as it did. -/
def factsLearnsUptoRow : OpenClaim := { program := "ythfmaclnccdcbaagreatdoor", sum := "feadac2ac1db59ce281df3b9bc5801243aaa6ce90c18f7a20dfe9a10429f857d", func := "priorart/priorartlaw19.FactsLearns", spec := "factsLearns", unfollowed := true, recurses := true, named := ["priorart/acts.fields"], apart := false, laid := [("priorart/acts.fields", laid_priorart_acts_fields)], narrowed := true }
def FactsLearnsUptoSaid : Prop := factsLearnsUptoRow.holds Tryz.pinned (OpenSpec.upto factsLearnsSpec)

/-- 'priorartlaw19.FactsPast', WHERE WHAT IT READS IS OF BULK AT MOST 1048576: true; the input reads as it did. -/
def factsPastUptoRow : OpenClaim := { program := "ythfmaclnccdcbaagreatdoor", sum := "feadac2ac1db59ce281df3b9bc5801243aaa6ce90c18f7a20dfe9a10429f857d", func := "priorart/priorartlaw19.FactsPast", spec := "factsPast", unfollowed := true, recurses := true, named := ["priorart/acts.fields"], apart := false, laid := [("priorart/acts.fields", laid_priorart_acts_fields)], narrowed := true }
def FactsPastUptoSaid : Prop := factsPastUptoRow.holds Tryz.pinned (OpenSpec.upto factsPastSpec)

end Rows
end Go.Proofs.YthfmaclnccdcbaaGreatDoor
