/-
  No cell of these rows narrows 'for every input' (looked for: loops, veiled, ifaces, maps, wideKeys, modest, calm, conditions, laid).
  DERIVED. THE GIVEN ROWS OF THIS SEAT. 6 by the template 'for every input the law returns true; each argument reads behind the call as it read before'; 0 by the template 'total and deterministic' (their statements: YtcnonbhhlbplpaaTotals.lean).
  GIVEN WITH THE SEED: the statements are not yours to turn. If you find one false, say at which input.
  Laid BY PROGRAM, IN A SANDBOX (cutbox-rows.mjs): the forced cells as the released guide's own fill.sh prints them over the translation 23fa8bbd68e84d85… (all of the seat's roots in one cut). By AI agents, Wed Nov 11 2026. No macro, syntax, notation, axiom, sorry.
-/
import Derived.Test.YtcnonbhhlbplpaaChecked
import GoSem.Claim
import GoSem.ClaimJoined
import GoSem.ClaimMapViews
import Derived.JoinedTies
import Derived.KernelRfl
namespace Go.Proofs.Ytcnonbhhlbplpaa
/- THE CELL 'sum', in the pinned program and in every row, IS THE sha256 OF THE DUMP (.gsa) THAT YtcnonbhhlbplpaaProg.lean LOADS. Nothing in Lean hashes anything: it is a label: what it is worth is what the hold of that sum in a sandbox is worth. -/
noncomputable def Try.pinned : Pinned := { name := "ytcnonbhhlbplpaa", sum := "23fa8bbd68e84d85a8cc0027a334db7e99989cce595fa82d7aab66f6633fb39e", checked := Try.checked }
namespace Rows
def none {H : Type} : Left H := { results := [], args := [] }

/-- 'priorartlaw31.SealLimits': WHATEVER THE INPUT: true; the input reads as it did. -/
def sealLimitsSpec : ChangeSpec := { name := "sealLimits", fn := fun _ => fun
  | [d1, d2, d3] => { results := [.lit (.bool true)], args := [d1, d2, d3] }
  | _ => none }
def sealLimitsRow : OpenClaim := { program := "ytcnonbhhlbplpaa", sum := "23fa8bbd68e84d85a8cc0027a334db7e99989cce595fa82d7aab66f6633fb39e", func := "priorart/priorartlaw31.SealLimits", spec := "sealLimits", unfollowed := true, recurses := true, apart := false }
def SealLimitsSaid : Prop := sealLimitsRow.holds Try.pinned (OpenSpec.ofChange sealLimitsSpec)

/-- ITS FALSE NEIGHBOUR: 'it returns false'. Refute it at one input. -/
def sealLimitsWrong : ChangeSpec := { name := "sealLimits", fn := fun _ => fun
  | [d1, d2, d3] => { results := [.lit (.bool false)], args := [d1, d2, d3] }
  | _ => none }
def SealLimitsWrongFalsely : Prop := sealLimitsRow.holds Try.pinned (OpenSpec.ofChange sealLimitsWrong)

/-- 'priorartlaw31.SealOrder': WHATEVER THE INPUT: true; the input reads as it did. -/
def sealOrderSpec : ChangeSpec := { name := "sealOrder", fn := fun _ => fun
  | [d1, d2] => { results := [.lit (.bool true)], args := [d1, d2] }
  | _ => none }
def sealOrderRow : OpenClaim := { program := "ytcnonbhhlbplpaa", sum := "23fa8bbd68e84d85a8cc0027a334db7e99989cce595fa82d7aab66f6633fb39e", func := "priorart/priorartlaw31.SealOrder", spec := "sealOrder", unfollowed := true, recurses := true, apart := false }
def SealOrderSaid : Prop := sealOrderRow.holds Try.pinned (OpenSpec.ofChange sealOrderSpec)

/-- ITS FALSE NEIGHBOUR: 'it returns false'. Refute it at one input. -/
def sealOrderWrong : ChangeSpec := { name := "sealOrder", fn := fun _ => fun
  | [d1, d2] => { results := [.lit (.bool false)], args := [d1, d2] }
  | _ => none }
def SealOrderWrongFalsely : Prop := sealOrderRow.holds Try.pinned (OpenSpec.ofChange sealOrderWrong)

/-- 'priorartlaw31.SealCommits': WHATEVER THE INPUT: true; the input reads as it did. -/
def sealCommitsSpec : ChangeSpec := { name := "sealCommits", fn := fun _ => fun
  | [d1, d2, d3, d4] => { results := [.lit (.bool true)], args := [d1, d2, d3, d4] }
  | _ => none }
def sealCommitsRow : OpenClaim := { program := "ytcnonbhhlbplpaa", sum := "23fa8bbd68e84d85a8cc0027a334db7e99989cce595fa82d7aab66f6633fb39e", func := "priorart/priorartlaw31.SealCommits", spec := "sealCommits", unfollowed := true, recurses := true, apart := false }
def SealCommitsSaid : Prop := sealCommitsRow.holds Try.pinned (OpenSpec.ofChange sealCommitsSpec)

/-- ITS FALSE NEIGHBOUR: 'it returns false'. Refute it at one input. -/
def sealCommitsWrong : ChangeSpec := { name := "sealCommits", fn := fun _ => fun
  | [d1, d2, d3, d4] => { results := [.lit (.bool false)], args := [d1, d2, d3, d4] }
  | _ => none }
def SealCommitsWrongFalsely : Prop := sealCommitsRow.holds Try.pinned (OpenSpec.ofChange sealCommitsWrong)

/-- 'priorartlaw31.SealBinds': WHATEVER THE INPUT: true; the input reads as it did. -/
def sealBindsSpec : ChangeSpec := { name := "sealBinds", fn := fun _ => fun
  | [d1, d2, d3, d4, d5, d6] => { results := [.lit (.bool true)], args := [d1, d2, d3, d4, d5, d6] }
  | _ => none }
def sealBindsRow : OpenClaim := { program := "ytcnonbhhlbplpaa", sum := "23fa8bbd68e84d85a8cc0027a334db7e99989cce595fa82d7aab66f6633fb39e", func := "priorart/priorartlaw31.SealBinds", spec := "sealBinds", unfollowed := true, recurses := true, apart := false }
def SealBindsSaid : Prop := sealBindsRow.holds Try.pinned (OpenSpec.ofChange sealBindsSpec)

/-- ITS FALSE NEIGHBOUR: 'it returns false'. Refute it at one input. -/
def sealBindsWrong : ChangeSpec := { name := "sealBinds", fn := fun _ => fun
  | [d1, d2, d3, d4, d5, d6] => { results := [.lit (.bool false)], args := [d1, d2, d3, d4, d5, d6] }
  | _ => none }
def SealBindsWrongFalsely : Prop := sealBindsRow.holds Try.pinned (OpenSpec.ofChange sealBindsWrong)

/-- 'priorartlaw31.SealRuns': WHATEVER THE INPUT: true; the input reads as it did. -/
def sealRunsSpec : ChangeSpec := { name := "sealRuns", fn := fun _ => fun
  | [d1, d2, d3] => { results := [.lit (.bool true)], args := [d1, d2, d3] }
  | _ => none }
def sealRunsRow : OpenClaim := { program := "ytcnonbhhlbplpaa", sum := "23fa8bbd68e84d85a8cc0027a334db7e99989cce595fa82d7aab66f6633fb39e", func := "priorart/priorartlaw31.SealRuns", spec := "sealRuns", inPlace := ["maps.clone"], unfollowed := true, recurses := true, apart := false }
def SealRunsSaid : Prop := sealRunsRow.holds Try.pinned (OpenSpec.ofChange sealRunsSpec)

/-- ITS FALSE NEIGHBOUR: 'it returns false'. Refute it at one input. -/
def sealRunsWrong : ChangeSpec := { name := "sealRuns", fn := fun _ => fun
  | [d1, d2, d3] => { results := [.lit (.bool false)], args := [d1, d2, d3] }
  | _ => none }
def SealRunsWrongFalsely : Prop := sealRunsRow.holds Try.pinned (OpenSpec.ofChange sealRunsWrong)

/-- 'priorartlaw31.SealOwn': WHATEVER THE INPUT: true; the input reads as it did. -/
def sealOwnSpec : ChangeSpec := { name := "sealOwn", fn := fun _ => fun
  | [d1, d2, d3] => { results := [.lit (.bool true)], args := [d1, d2, d3] }
  | _ => none }
def sealOwnRow : OpenClaim := { program := "ytcnonbhhlbplpaa", sum := "23fa8bbd68e84d85a8cc0027a334db7e99989cce595fa82d7aab66f6633fb39e", func := "priorart/priorartlaw31.SealOwn", spec := "sealOwn", unfollowed := true, recurses := true, apart := false }
def SealOwnSaid : Prop := sealOwnRow.holds Try.pinned (OpenSpec.ofChange sealOwnSpec)

/-- ITS FALSE NEIGHBOUR: 'it returns false'. Refute it at one input. -/
def sealOwnWrong : ChangeSpec := { name := "sealOwn", fn := fun _ => fun
  | [d1, d2, d3] => { results := [.lit (.bool false)], args := [d1, d2, d3] }
  | _ => none }
def SealOwnWrongFalsely : Prop := sealOwnRow.holds Try.pinned (OpenSpec.ofChange sealOwnWrong)

/- THE SECOND FORM. 'bulk': how many values and letters a reading holds, each counted each time it is reached (what is shared counts as often as it is met; a slice's spare places count too). A statement '..UptoSaid' is the law's where the arguments, and the package variables that the reading takes, are together of bulk at most 1048576: NARROWER than '..Said'. Prove '..Said' where nothing that the law and all that it calls make is longer than what came in: it says more and counts as full. Else prove '..UptoSaid'. A law counts once. -/
mutual
def uptoBulk {H : Type} : DataW H → Nat
  | .lit (.string bytes) => bytes.length + 1
  | .lit _ => 1
  | .nil => 1
  | .ptr d => uptoBulk d + 1
  | .slice elems spare => uptoBulkAll elems + uptoBulkAll spare + 1
  | .agg parts => uptoBulkAll parts + 1
  | .iface _ d => uptoBulk d + 1
  | .map entries => uptoBulkEntries entries + 1
  | .held _ => 1
def uptoBulkAll {H : Type} : List (DataW H) → Nat
  | [] => 0
  | d :: r => uptoBulk d + uptoBulkAll r
def uptoBulkEntries {H : Type} : List (Lit × DataW H) → Nat
  | [] => 0
  | x :: r => uptoBulkEntry x + uptoBulkEntries r
def uptoBulkEntry {H : Type} : Lit × DataW H → Nat
  | (.string bytes, d) => bytes.length + uptoBulk d + 1
  | (_, d) => uptoBulk d + 1
 end
def uptoSmall : (H : Type) → List (DataW H) → Bool := fun _ ds => decide (uptoBulkAll ds ≤ 1048576)
def OpenSpec.upto (s : _root_.Go.ChangeSpec) : _root_.Go.OpenSpec := { _root_.Go.OpenSpec.ofChange s with cond := some uptoSmall }

/-- 'priorartlaw31.SealLimits', WHERE WHAT IT READS IS OF BULK AT MOST 1048576: true; the input reads as it did. -/
def sealLimitsUptoRow : OpenClaim := { program := "ytcnonbhhlbplpaa", sum := "23fa8bbd68e84d85a8cc0027a334db7e99989cce595fa82d7aab66f6633fb39e", func := "priorart/priorartlaw31.SealLimits", spec := "sealLimits", unfollowed := true, recurses := true, apart := false, narrowed := true }
def SealLimitsUptoSaid : Prop := sealLimitsUptoRow.holds Try.pinned (OpenSpec.upto sealLimitsSpec)

/-- 'priorartlaw31.SealOrder', WHERE WHAT IT READS IS OF BULK AT MOST 1048576: true; the input reads as it did. -/
def sealOrderUptoRow : OpenClaim := { program := "ytcnonbhhlbplpaa", sum := "23fa8bbd68e84d85a8cc0027a334db7e99989cce595fa82d7aab66f6633fb39e", func := "priorart/priorartlaw31.SealOrder", spec := "sealOrder", unfollowed := true, recurses := true, apart := false, narrowed := true }
def SealOrderUptoSaid : Prop := sealOrderUptoRow.holds Try.pinned (OpenSpec.upto sealOrderSpec)

/-- 'priorartlaw31.SealCommits', WHERE WHAT IT READS IS OF BULK AT MOST 1048576: true; the input reads as it did. -/
def sealCommitsUptoRow : OpenClaim := { program := "ytcnonbhhlbplpaa", sum := "23fa8bbd68e84d85a8cc0027a334db7e99989cce595fa82d7aab66f6633fb39e", func := "priorart/priorartlaw31.SealCommits", spec := "sealCommits", unfollowed := true, recurses := true, apart := false, narrowed := true }
def SealCommitsUptoSaid : Prop := sealCommitsUptoRow.holds Try.pinned (OpenSpec.upto sealCommitsSpec)

/-- 'priorartlaw31.SealBinds', WHERE WHAT IT READS IS OF BULK AT MOST 1048576: true; the input reads as it did. -/
def sealBindsUptoRow : OpenClaim := { program := "ytcnonbhhlbplpaa", sum := "23fa8bbd68e84d85a8cc0027a334db7e99989cce595fa82d7aab66f6633fb39e", func := "priorart/priorartlaw31.SealBinds", spec := "sealBinds", unfollowed := true, recurses := true, apart := false, narrowed := true }
def SealBindsUptoSaid : Prop := sealBindsUptoRow.holds Try.pinned (OpenSpec.upto sealBindsSpec)

/-- 'priorartlaw31.SealRuns', WHERE WHAT IT READS IS OF BULK AT MOST 1048576: true; the input reads as it did. -/
def sealRunsUptoRow : OpenClaim := { program := "ytcnonbhhlbplpaa", sum := "23fa8bbd68e84d85a8cc0027a334db7e99989cce595fa82d7aab66f6633fb39e", func := "priorart/priorartlaw31.SealRuns", spec := "sealRuns", inPlace := ["maps.clone"], unfollowed := true, recurses := true, apart := false, narrowed := true }
def SealRunsUptoSaid : Prop := sealRunsUptoRow.holds Try.pinned (OpenSpec.upto sealRunsSpec)

/-- 'priorartlaw31.SealOwn', WHERE WHAT IT READS IS OF BULK AT MOST 1048576: true; the input reads as it did. -/
def sealOwnUptoRow : OpenClaim := { program := "ytcnonbhhlbplpaa", sum := "23fa8bbd68e84d85a8cc0027a334db7e99989cce595fa82d7aab66f6633fb39e", func := "priorart/priorartlaw31.SealOwn", spec := "sealOwn", unfollowed := true, recurses := true, apart := false, narrowed := true }
def SealOwnUptoSaid : Prop := sealOwnUptoRow.holds Try.pinned (OpenSpec.upto sealOwnSpec)

end Rows
end Go.Proofs.Ytcnonbhhlbplpaa
