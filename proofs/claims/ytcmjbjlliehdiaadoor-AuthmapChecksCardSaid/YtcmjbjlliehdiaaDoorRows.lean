/-
  NARROWER THAN 'FOR EVERY INPUT', by the rows' own cells (each row's printed sentence says how): AuthmapHistory: laid · AuthmapHash: laid · AuthmapBytes: laid · AuthmapChecks: laid · AuthmapRuns: laid · AuthmapRanges: laid · AuthmapSound: laid · AuthmapApart: laid.
  DERIVED. THE GIVEN ROWS OF THIS SEAT. 8 by the template 'for every input the law returns true; each argument reads behind the call as it read before'; 0 by the template 'total and deterministic' (their statements: YtcmjbjlliehdiaaDoorTotals.lean).
  GIVEN WITH THE SEED: the statements are not yours to turn. If you find one false, say at which input.
  Laid BY PROGRAM, IN A SANDBOX (cutbox-rows.mjs): the forced cells as the released guide's own fill.sh prints them over the translation 2548ecbed0592fce… (all of the seat's roots in one cut). By AI agents, Wed Nov 11 2026. No macro, syntax, notation, axiom, sorry.
-/
import Derived.Test.YtcmjbjlliehdiaaDoorChecked
import GoSem.Claim
import GoSem.ClaimJoined
import GoSem.ClaimMapViews
import Derived.JoinedTies
import Derived.KernelRfl
namespace Go.Proofs.YtcmjbjlliehdiaaDoor
/- THE CELL 'sum', in the pinned program and in every row, IS THE sha256 OF THE DUMP (.gsa) THAT YtcmjbjlliehdiaaDoorProg.lean LOADS. Nothing in Lean hashes anything: it is a label: what it is worth is what the hold of that sum in a sandbox is worth. -/
noncomputable def Tryd.pinned : Pinned := { name := "ytcmjbjlliehdiaadoor", sum := "2548ecbed0592fce8bdee995b4ba28b3ee6b9ade4c1b37ba2421c6072ac60bb1", checked := Tryd.checked }
namespace Rows
def none {H : Type} : Left H := { results := [], args := [] }

/- WHAT THE LISTED PACKAGE-LEVEL VARIABLES READ AS WHEN THE CALL BEGINS. Each datum BY PROGRAM (the guide's laid-datum.mjs) off the statement by which the dump's own 'gosem.cut.vars' lays the variable. In a bare row this is a premise. The card (YtcmjbjlliehdiaaDoorCards.lean) ties it to the program's text. -/
def laid_priorart_authmap_whole {H : Type} : DataW H := .agg [.lit (.int .i64 12), .lit (.int .i64 0)]

/-- 'priorartlaw33.AuthmapHistory': WHATEVER THE INPUT: true; the input reads as it did. -/
def authmapHistorySpec : ChangeSpec := { name := "authmapHistory", fn := fun _ => fun
  | [d1, d2, d3, d4] => { results := [.lit (.bool true)], args := [d1, d2, d3, d4] }
  | _ => none }
def authmapHistoryRow : OpenClaim := { program := "ytcmjbjlliehdiaadoor", sum := "2548ecbed0592fce8bdee995b4ba28b3ee6b9ade4c1b37ba2421c6072ac60bb1", func := "priorart/priorartlaw33.AuthmapHistory", spec := "authmapHistory", unfollowed := true, recurses := true, named := ["priorart/authmap.whole"], plainKeys := false, apart := false, laid := [("priorart/authmap.whole", laid_priorart_authmap_whole)] }
def AuthmapHistorySaid : Prop := authmapHistoryRow.holds Tryd.pinned (OpenSpec.ofChange authmapHistorySpec)

/-- ITS FALSE NEIGHBOUR: 'it returns false'. Refute it at one input. -/
def authmapHistoryWrong : ChangeSpec := { name := "authmapHistory", fn := fun _ => fun
  | [d1, d2, d3, d4] => { results := [.lit (.bool false)], args := [d1, d2, d3, d4] }
  | _ => none }
def AuthmapHistoryWrongFalsely : Prop := authmapHistoryRow.holds Tryd.pinned (OpenSpec.ofChange authmapHistoryWrong)

/-- 'priorartlaw33.AuthmapHash': WHATEVER THE INPUT: true; the input reads as it did. -/
def authmapHashSpec : ChangeSpec := { name := "authmapHash", fn := fun _ => fun
  | [d1, d2] => { results := [.lit (.bool true)], args := [d1, d2] }
  | _ => none }
def authmapHashRow : OpenClaim := { program := "ytcmjbjlliehdiaadoor", sum := "2548ecbed0592fce8bdee995b4ba28b3ee6b9ade4c1b37ba2421c6072ac60bb1", func := "priorart/priorartlaw33.AuthmapHash", spec := "authmapHash", unfollowed := true, recurses := true, named := ["priorart/authmap.whole"], plainKeys := false, apart := false, laid := [("priorart/authmap.whole", laid_priorart_authmap_whole)] }
def AuthmapHashSaid : Prop := authmapHashRow.holds Tryd.pinned (OpenSpec.ofChange authmapHashSpec)

/-- ITS FALSE NEIGHBOUR: 'it returns false'. Refute it at one input. -/
def authmapHashWrong : ChangeSpec := { name := "authmapHash", fn := fun _ => fun
  | [d1, d2] => { results := [.lit (.bool false)], args := [d1, d2] }
  | _ => none }
def AuthmapHashWrongFalsely : Prop := authmapHashRow.holds Tryd.pinned (OpenSpec.ofChange authmapHashWrong)

/-- 'priorartlaw33.AuthmapBytes': WHATEVER THE INPUT: true; the input reads as it did. -/
def authmapBytesSpec : ChangeSpec := { name := "authmapBytes", fn := fun _ => fun
  | [d1, d2, d3, d4, d5, d6, d7, d8] => { results := [.lit (.bool true)], args := [d1, d2, d3, d4, d5, d6, d7, d8] }
  | _ => none }
def authmapBytesRow : OpenClaim := { program := "ytcmjbjlliehdiaadoor", sum := "2548ecbed0592fce8bdee995b4ba28b3ee6b9ade4c1b37ba2421c6072ac60bb1", func := "priorart/priorartlaw33.AuthmapBytes", spec := "authmapBytes", unfollowed := true, recurses := true, named := ["priorart/authmap.whole"], plainKeys := false, apart := false, laid := [("priorart/authmap.whole", laid_priorart_authmap_whole)] }
def AuthmapBytesSaid : Prop := authmapBytesRow.holds Tryd.pinned (OpenSpec.ofChange authmapBytesSpec)

/-- ITS FALSE NEIGHBOUR: 'it returns false'. Refute it at one input. -/
def authmapBytesWrong : ChangeSpec := { name := "authmapBytes", fn := fun _ => fun
  | [d1, d2, d3, d4, d5, d6, d7, d8] => { results := [.lit (.bool false)], args := [d1, d2, d3, d4, d5, d6, d7, d8] }
  | _ => none }
def AuthmapBytesWrongFalsely : Prop := authmapBytesRow.holds Tryd.pinned (OpenSpec.ofChange authmapBytesWrong)

/-- 'priorartlaw33.AuthmapChecks': WHATEVER THE INPUT: true; the input reads as it did. -/
def authmapChecksSpec : ChangeSpec := { name := "authmapChecks", fn := fun _ => fun
  | [d1, d2, d3, d4, d5, d6] => { results := [.lit (.bool true)], args := [d1, d2, d3, d4, d5, d6] }
  | _ => none }
def authmapChecksRow : OpenClaim := { program := "ytcmjbjlliehdiaadoor", sum := "2548ecbed0592fce8bdee995b4ba28b3ee6b9ade4c1b37ba2421c6072ac60bb1", func := "priorart/priorartlaw33.AuthmapChecks", spec := "authmapChecks", unfollowed := true, recurses := true, named := ["priorart/authmap.whole"], plainKeys := false, apart := false, laid := [("priorart/authmap.whole", laid_priorart_authmap_whole)] }
def AuthmapChecksSaid : Prop := authmapChecksRow.holds Tryd.pinned (OpenSpec.ofChange authmapChecksSpec)

/-- ITS FALSE NEIGHBOUR: 'it returns false'. Refute it at one input. -/
def authmapChecksWrong : ChangeSpec := { name := "authmapChecks", fn := fun _ => fun
  | [d1, d2, d3, d4, d5, d6] => { results := [.lit (.bool false)], args := [d1, d2, d3, d4, d5, d6] }
  | _ => none }
def AuthmapChecksWrongFalsely : Prop := authmapChecksRow.holds Tryd.pinned (OpenSpec.ofChange authmapChecksWrong)

/-- 'priorartlaw33.AuthmapRuns': WHATEVER THE INPUT: true; the input reads as it did. -/
def authmapRunsSpec : ChangeSpec := { name := "authmapRuns", fn := fun _ => fun
  | [d1, d2, d3] => { results := [.lit (.bool true)], args := [d1, d2, d3] }
  | _ => none }
def authmapRunsRow : OpenClaim := { program := "ytcmjbjlliehdiaadoor", sum := "2548ecbed0592fce8bdee995b4ba28b3ee6b9ade4c1b37ba2421c6072ac60bb1", func := "priorart/priorartlaw33.AuthmapRuns", spec := "authmapRuns", unfollowed := true, recurses := true, named := ["priorart/authmap.whole"], plainKeys := false, apart := false, laid := [("priorart/authmap.whole", laid_priorart_authmap_whole)] }
def AuthmapRunsSaid : Prop := authmapRunsRow.holds Tryd.pinned (OpenSpec.ofChange authmapRunsSpec)

/-- ITS FALSE NEIGHBOUR: 'it returns false'. Refute it at one input. -/
def authmapRunsWrong : ChangeSpec := { name := "authmapRuns", fn := fun _ => fun
  | [d1, d2, d3] => { results := [.lit (.bool false)], args := [d1, d2, d3] }
  | _ => none }
def AuthmapRunsWrongFalsely : Prop := authmapRunsRow.holds Tryd.pinned (OpenSpec.ofChange authmapRunsWrong)

/-- 'priorartlaw33.AuthmapRanges': WHATEVER THE INPUT: true; the input reads as it did. -/
def authmapRangesSpec : ChangeSpec := { name := "authmapRanges", fn := fun _ => fun
  | [d1, d2, d3, d4, d5] => { results := [.lit (.bool true)], args := [d1, d2, d3, d4, d5] }
  | _ => none }
def authmapRangesRow : OpenClaim := { program := "ytcmjbjlliehdiaadoor", sum := "2548ecbed0592fce8bdee995b4ba28b3ee6b9ade4c1b37ba2421c6072ac60bb1", func := "priorart/priorartlaw33.AuthmapRanges", spec := "authmapRanges", unfollowed := true, recurses := true, named := ["priorart/authmap.whole"], plainKeys := false, apart := false, laid := [("priorart/authmap.whole", laid_priorart_authmap_whole)] }
def AuthmapRangesSaid : Prop := authmapRangesRow.holds Tryd.pinned (OpenSpec.ofChange authmapRangesSpec)

/-- ITS FALSE NEIGHBOUR: 'it returns false'. Refute it at one input. -/
def authmapRangesWrong : ChangeSpec := { name := "authmapRanges", fn := fun _ => fun
  | [d1, d2, d3, d4, d5] => { results := [.lit (.bool false)], args := [d1, d2, d3, d4, d5] }
  | _ => none }
def AuthmapRangesWrongFalsely : Prop := authmapRangesRow.holds Tryd.pinned (OpenSpec.ofChange authmapRangesWrong)

/-- 'priorartlaw33.AuthmapSound': WHATEVER THE INPUT: true; the input reads as it did. -/
def authmapSoundSpec : ChangeSpec := { name := "authmapSound", fn := fun _ => fun
  | [d1, d2, d3, d4, d5, d6] => { results := [.lit (.bool true)], args := [d1, d2, d3, d4, d5, d6] }
  | _ => none }
def authmapSoundRow : OpenClaim := { program := "ytcmjbjlliehdiaadoor", sum := "2548ecbed0592fce8bdee995b4ba28b3ee6b9ade4c1b37ba2421c6072ac60bb1", func := "priorart/priorartlaw33.AuthmapSound", spec := "authmapSound", unfollowed := true, recurses := true, named := ["priorart/authmap.whole"], plainKeys := false, apart := false, laid := [("priorart/authmap.whole", laid_priorart_authmap_whole)] }
def AuthmapSoundSaid : Prop := authmapSoundRow.holds Tryd.pinned (OpenSpec.ofChange authmapSoundSpec)

/-- ITS FALSE NEIGHBOUR: 'it returns false'. Refute it at one input. -/
def authmapSoundWrong : ChangeSpec := { name := "authmapSound", fn := fun _ => fun
  | [d1, d2, d3, d4, d5, d6] => { results := [.lit (.bool false)], args := [d1, d2, d3, d4, d5, d6] }
  | _ => none }
def AuthmapSoundWrongFalsely : Prop := authmapSoundRow.holds Tryd.pinned (OpenSpec.ofChange authmapSoundWrong)

/-- 'priorartlaw33.AuthmapApart': WHATEVER THE INPUT: true; the input reads as it did. -/
def authmapApartSpec : ChangeSpec := { name := "authmapApart", fn := fun _ => fun
  | [d1, d2, d3, d4] => { results := [.lit (.bool true)], args := [d1, d2, d3, d4] }
  | _ => none }
def authmapApartRow : OpenClaim := { program := "ytcmjbjlliehdiaadoor", sum := "2548ecbed0592fce8bdee995b4ba28b3ee6b9ade4c1b37ba2421c6072ac60bb1", func := "priorart/priorartlaw33.AuthmapApart", spec := "authmapApart", unfollowed := true, recurses := true, named := ["priorart/authmap.whole"], plainKeys := false, apart := false, laid := [("priorart/authmap.whole", laid_priorart_authmap_whole)] }
def AuthmapApartSaid : Prop := authmapApartRow.holds Tryd.pinned (OpenSpec.ofChange authmapApartSpec)

/-- ITS FALSE NEIGHBOUR: 'it returns false'. Refute it at one input. -/
def authmapApartWrong : ChangeSpec := { name := "authmapApart", fn := fun _ => fun
  | [d1, d2, d3, d4] => { results := [.lit (.bool false)], args := [d1, d2, d3, d4] }
  | _ => none }
def AuthmapApartWrongFalsely : Prop := authmapApartRow.holds Tryd.pinned (OpenSpec.ofChange authmapApartWrong)

/- THE SECOND FORM. 'bulk': how many values and letters a reading holds, each counted each time it is reached (what is shared counts as often as it is met; a slice's spare places count too). A statement '..UptoSaid' is the law's where the arguments, and the package variables that the reading takes, are together of bulk at most 1048576: NARROWER than '..Said'. Prove '..Said' where nothing that the law and all that it calls make is longer than what came in: it says more and counts as full. Else prove '..UptoSaid'. A law counts once. -/
mutual
def uptoBulk {H : Type} : DataW H → Nat
  | .lit (.string bytes) => bytes.length + 1
  | .lit _ => 1
  | .nil => 1
  | .ptr d => uptoBulk d + 1
  | .slice elems spare => uptoBulkAll elems + uptoBulkAll spare + 1
  | .agg parts => uptoBulkAll parts + 1
  | .iface _ d => uptoBulk d + 1
  | .map entries => uptoBulkEntries entries + 1
  | .held _ => 1
def uptoBulkAll {H : Type} : List (DataW H) → Nat
  | [] => 0
  | d :: r => uptoBulk d + uptoBulkAll r
def uptoBulkEntries {H : Type} : List (Lit × DataW H) → Nat
  | [] => 0
  | x :: r => uptoBulkEntry x + uptoBulkEntries r
def uptoBulkEntry {H : Type} : Lit × DataW H → Nat
  | (.string bytes, d) => bytes.length + uptoBulk d + 1
  | (_, d) => uptoBulk d + 1
 end
def uptoSmall : (H : Type) → List (DataW H) → Bool := fun _ ds => decide (uptoBulkAll ds ≤ 1048576)
def OpenSpec.upto (s : _root_.Go.ChangeSpec) : _root_.Go.OpenSpec := { _root_.Go.OpenSpec.ofChange s with cond := some uptoSmall }

/-- 'priorartlaw33.AuthmapHistory', WHERE WHAT IT READS IS OF BULK AT MOST 1048576: true; the input reads as it did. -/
def authmapHistoryUptoRow : OpenClaim := { program := "ytcmjbjlliehdiaadoor", sum := "2548ecbed0592fce8bdee995b4ba28b3ee6b9ade4c1b37ba2421c6072ac60bb1", func := "priorart/priorartlaw33.AuthmapHistory", spec := "authmapHistory", unfollowed := true, recurses := true, named := ["priorart/authmap.whole"], plainKeys := false, apart := false, laid := [("priorart/authmap.whole", laid_priorart_authmap_whole)], narrowed := true }
def AuthmapHistoryUptoSaid : Prop := authmapHistoryUptoRow.holds Tryd.pinned (OpenSpec.upto authmapHistorySpec)

/-- 'priorartlaw33.AuthmapHash', WHERE WHAT IT READS IS OF BULK AT MOST 1048576: true; the input reads as it did. -/
def authmapHashUptoRow : OpenClaim := { program := "ytcmjbjlliehdiaadoor", sum := "2548ecbed0592fce8bdee995b4ba28b3ee6b9ade4c1b37ba2421c6072ac60bb1", func := "priorart/priorartlaw33.AuthmapHash", spec := "authmapHash", unfollowed := true, recurses := true, named := ["priorart/authmap.whole"], plainKeys := false, apart := false, laid := [("priorart/authmap.whole", laid_priorart_authmap_whole)], narrowed := true }
def AuthmapHashUptoSaid : Prop := authmapHashUptoRow.holds Tryd.pinned (OpenSpec.upto authmapHashSpec)

/-- 'priorartlaw33.AuthmapBytes', WHERE WHAT IT READS IS OF BULK AT MOST 1048576: true; the input reads as it did. -/
def authmapBytesUptoRow : OpenClaim := { program := "ytcmjbjlliehdiaadoor", sum := "2548ecbed0592fce8bdee995b4ba28b3ee6b9ade4c1b37ba2421c6072ac60bb1", func := "priorart/priorartlaw33.AuthmapBytes", spec := "authmapBytes", unfollowed := true, recurses := true, named := ["priorart/authmap.whole"], plainKeys := false, apart := false, laid := [("priorart/authmap.whole", laid_priorart_authmap_whole)], narrowed := true }
def AuthmapBytesUptoSaid : Prop := authmapBytesUptoRow.holds Tryd.pinned (OpenSpec.upto authmapBytesSpec)

/-- 'priorartlaw33.AuthmapChecks', WHERE WHAT IT READS IS OF BULK AT MOST 1048576: true; the input reads as it did. -/
def authmapChecksUptoRow : OpenClaim := { program := "ytcmjbjlliehdiaadoor", sum := "2548ecbed0592fce8bdee995b4ba28b3ee6b9ade4c1b37ba2421c6072ac60bb1", func := "priorart/priorartlaw33.AuthmapChecks", spec := "authmapChecks", unfollowed := true, recurses := true, named := ["priorart/authmap.whole"], plainKeys := false, apart := false, laid := [("priorart/authmap.whole", laid_priorart_authmap_whole)], narrowed := true }
def AuthmapChecksUptoSaid : Prop := authmapChecksUptoRow.holds Tryd.pinned (OpenSpec.upto authmapChecksSpec)

/-- 'priorartlaw33.AuthmapRuns', WHERE WHAT IT READS IS OF BULK AT MOST 1048576: true; the input reads as it did. -/
def authmapRunsUptoRow : OpenClaim := { program := "ytcmjbjlliehdiaadoor", sum := "2548ecbed0592fce8bdee995b4ba28b3ee6b9ade4c1b37ba2421c6072ac60bb1", func := "priorart/priorartlaw33.AuthmapRuns", spec := "authmapRuns", unfollowed := true, recurses := true, named := ["priorart/authmap.whole"], plainKeys := false, apart := false, laid := [("priorart/authmap.whole", laid_priorart_authmap_whole)], narrowed := true }
def AuthmapRunsUptoSaid : Prop := authmapRunsUptoRow.holds Tryd.pinned (OpenSpec.upto authmapRunsSpec)

/-- 'priorartlaw33.AuthmapRanges', WHERE WHAT IT READS IS OF BULK AT MOST 1048576: true; the input reads as it did. -/
def authmapRangesUptoRow : OpenClaim := { program := "ytcmjbjlliehdiaadoor", sum := "2548ecbed0592fce8bdee995b4ba28b3ee6b9ade4c1b37ba2421c6072ac60bb1", func := "priorart/priorartlaw33.AuthmapRanges", spec := "authmapRanges", unfollowed := true, recurses := true, named := ["priorart/authmap.whole"], plainKeys := false, apart := false, laid := [("priorart/authmap.whole", laid_priorart_authmap_whole)], narrowed := true }
def AuthmapRangesUptoSaid : Prop := authmapRangesUptoRow.holds Tryd.pinned (OpenSpec.upto authmapRangesSpec)

/-- 'priorartlaw33.AuthmapSound', WHERE WHAT IT READS IS OF BULK AT MOST 1048576: true; the input reads as it did. -/
def authmapSoundUptoRow : OpenClaim := { program := "ytcmjbjlliehdiaadoor", sum := "2548ecbed0592fce8bdee995b4ba28b3ee6b9ade4c1b37ba2421c6072ac60bb1", func := "priorart/priorartlaw33.AuthmapSound", spec := "authmapSound", unfollowed := true, recurses := true, named := ["priorart/authmap.whole"], plainKeys := false, apart := false, laid := [("priorart/authmap.whole", laid_priorart_authmap_whole)], narrowed := true }
def AuthmapSoundUptoSaid : Prop := authmapSoundUptoRow.holds Tryd.pinned (OpenSpec.upto authmapSoundSpec)

/-- 'priorartlaw33.AuthmapApart', WHERE WHAT IT READS IS OF BULK AT MOST 1048576: true; the input reads as it did. -/
def authmapApartUptoRow : OpenClaim := { program := "ytcmjbjlliehdiaadoor", sum := "2548ecbed0592fce8bdee995b4ba28b3ee6b9ade4c1b37ba2421c6072ac60bb1", func := "priorart/priorartlaw33.AuthmapApart", spec := "authmapApart", unfollowed := true, recurses := true, named := ["priorart/authmap.whole"], plainKeys := false, apart := false, laid := [("priorart/authmap.whole", laid_priorart_authmap_whole)], narrowed := true }
def AuthmapApartUptoSaid : Prop := authmapApartUptoRow.holds Tryd.pinned (OpenSpec.upto authmapApartSpec)

end Rows
end Go.Proofs.YtcmjbjlliehdiaaDoor
