/-
  No cell of these rows narrows 'for every input' (looked for: loops, veiled, ifaces, maps, wideKeys, modest, calm, conditions, laid).
  DERIVED. THE GIVEN ROWS OF THIS SEAT. 16 by the template 'for every input the law returns true; each argument reads behind the call as it read before'; 0 by the template 'total and deterministic' (their statements: YtlgpejiepogopaaTotals.lean).
  GIVEN WITH THE SEED: the statements are not yours to turn. If you find one false, say at which input.
  Laid BY PROGRAM, IN A SANDBOX (cutbox-rows.mjs): the forced cells as the released guide's own fill.sh prints them over the translation 29f60d348b515a72… (all of the seat's roots in one cut). By AI agents, Wed Nov 11 2026. No macro, syntax, notation, axiom, sorry.
-/
import Derived.Test.YtlgpejiepogopaaChecked
import GoSem.Claim
import GoSem.ClaimJoined
import GoSem.ClaimMapViews
import Derived.JoinedTies
import Derived.KernelRfl
namespace Go.Proofs.Ytlgpejiepogopaa
/- THE CELL 'sum', in the pinned program and in every row, IS THE sha256 OF THE DUMP (.gsa) THAT YtlgpejiepogopaaProg.lean LOADS. Nothing in Lean hashes anything: it is a label: what it is worth is what the hold of that sum in a sandbox is worth. -/
noncomputable def Try.pinned : Pinned := { name := "ytlgpejiepogopaa", sum := "29f60d348b515a727e9469bdc8bab4303d8261d9a3df18bad62fc05a4468fb99", checked := Try.checked }
namespace Rows
def none {H : Type} : Left H := { results := [], args := [] }

/-- 'laws.FnExactSortDie': WHATEVER THE INPUT: true; the input reads as it did. -/
def fnExactSortDieSpec : ChangeSpec := { name := "fnExactSortDie", fn := fun _ => fun
  | [d] => { results := [.lit (.bool true)], args := [d] }
  | _ => none }
def fnExactSortDieRow : OpenClaim := { program := "ytlgpejiepogopaa", sum := "29f60d348b515a727e9469bdc8bab4303d8261d9a3df18bad62fc05a4468fb99", func := "loop.example/g01210/laws.FnExactSortDie", spec := "fnExactSortDie", unfollowed := true, recurses := true, plainKeys := false, apart := false }
def FnExactSortDieSaid : Prop := fnExactSortDieRow.holds Try.pinned (OpenSpec.ofChange fnExactSortDieSpec)

/-- ITS FALSE NEIGHBOUR: 'it returns false'. Refute it at one input. -/
def fnExactSortDieWrong : ChangeSpec := { name := "fnExactSortDie", fn := fun _ => fun
  | [d] => { results := [.lit (.bool false)], args := [d] }
  | _ => none }
def FnExactSortDieWrongFalsely : Prop := fnExactSortDieRow.holds Try.pinned (OpenSpec.ofChange fnExactSortDieWrong)

/-- 'laws.FnExactHitTable': WHATEVER THE INPUT: true; the input reads as it did. -/
def fnExactHitTableSpec : ChangeSpec := { name := "fnExactHitTable", fn := fun _ => fun
  | [d1, d2] => { results := [.lit (.bool true)], args := [d1, d2] }
  | _ => none }
def fnExactHitTableRow : OpenClaim := { program := "ytlgpejiepogopaa", sum := "29f60d348b515a727e9469bdc8bab4303d8261d9a3df18bad62fc05a4468fb99", func := "loop.example/g01210/laws.FnExactHitTable", spec := "fnExactHitTable", unfollowed := true, recurses := true, plainKeys := false, apart := false }
def FnExactHitTableSaid : Prop := fnExactHitTableRow.holds Try.pinned (OpenSpec.ofChange fnExactHitTableSpec)

/-- ITS FALSE NEIGHBOUR: 'it returns false'. Refute it at one input. -/
def fnExactHitTableWrong : ChangeSpec := { name := "fnExactHitTable", fn := fun _ => fun
  | [d1, d2] => { results := [.lit (.bool false)], args := [d1, d2] }
  | _ => none }
def FnExactHitTableWrongFalsely : Prop := fnExactHitTableRow.holds Try.pinned (OpenSpec.ofChange fnExactHitTableWrong)

/-- 'laws.FnExactPlaceTable': WHATEVER THE INPUT: true; the input reads as it did. -/
def fnExactPlaceTableSpec : ChangeSpec := { name := "fnExactPlaceTable", fn := fun _ => fun
  | [d1, d2] => { results := [.lit (.bool true)], args := [d1, d2] }
  | _ => none }
def fnExactPlaceTableRow : OpenClaim := { program := "ytlgpejiepogopaa", sum := "29f60d348b515a727e9469bdc8bab4303d8261d9a3df18bad62fc05a4468fb99", func := "loop.example/g01210/laws.FnExactPlaceTable", spec := "fnExactPlaceTable", unfollowed := true, recurses := true, plainKeys := false, apart := false }
def FnExactPlaceTableSaid : Prop := fnExactPlaceTableRow.holds Try.pinned (OpenSpec.ofChange fnExactPlaceTableSpec)

/-- ITS FALSE NEIGHBOUR: 'it returns false'. Refute it at one input. -/
def fnExactPlaceTableWrong : ChangeSpec := { name := "fnExactPlaceTable", fn := fun _ => fun
  | [d1, d2] => { results := [.lit (.bool false)], args := [d1, d2] }
  | _ => none }
def FnExactPlaceTableWrongFalsely : Prop := fnExactPlaceTableRow.holds Try.pinned (OpenSpec.ofChange fnExactPlaceTableWrong)

/-- 'laws.FnExactDropTable': WHATEVER THE INPUT: true; the input reads as it did. -/
def fnExactDropTableSpec : ChangeSpec := { name := "fnExactDropTable", fn := fun _ => fun
  | [d1, d2] => { results := [.lit (.bool true)], args := [d1, d2] }
  | _ => none }
def fnExactDropTableRow : OpenClaim := { program := "ytlgpejiepogopaa", sum := "29f60d348b515a727e9469bdc8bab4303d8261d9a3df18bad62fc05a4468fb99", func := "loop.example/g01210/laws.FnExactDropTable", spec := "fnExactDropTable", unfollowed := true, recurses := true, plainKeys := false, apart := false }
def FnExactDropTableSaid : Prop := fnExactDropTableRow.holds Try.pinned (OpenSpec.ofChange fnExactDropTableSpec)

/-- ITS FALSE NEIGHBOUR: 'it returns false'. Refute it at one input. -/
def fnExactDropTableWrong : ChangeSpec := { name := "fnExactDropTable", fn := fun _ => fun
  | [d1, d2] => { results := [.lit (.bool false)], args := [d1, d2] }
  | _ => none }
def FnExactDropTableWrongFalsely : Prop := fnExactDropTableRow.holds Try.pinned (OpenSpec.ofChange fnExactDropTableWrong)

/-- 'laws.FnExactKeepTable': WHATEVER THE INPUT: true; the input reads as it did. -/
def fnExactKeepTableSpec : ChangeSpec := { name := "fnExactKeepTable", fn := fun _ => fun
  | [d1, d2] => { results := [.lit (.bool true)], args := [d1, d2] }
  | _ => none }
def fnExactKeepTableRow : OpenClaim := { program := "ytlgpejiepogopaa", sum := "29f60d348b515a727e9469bdc8bab4303d8261d9a3df18bad62fc05a4468fb99", func := "loop.example/g01210/laws.FnExactKeepTable", spec := "fnExactKeepTable", unfollowed := true, recurses := true, plainKeys := false, apart := false }
def FnExactKeepTableSaid : Prop := fnExactKeepTableRow.holds Try.pinned (OpenSpec.ofChange fnExactKeepTableSpec)

/-- ITS FALSE NEIGHBOUR: 'it returns false'. Refute it at one input. -/
def fnExactKeepTableWrong : ChangeSpec := { name := "fnExactKeepTable", fn := fun _ => fun
  | [d1, d2] => { results := [.lit (.bool false)], args := [d1, d2] }
  | _ => none }
def FnExactKeepTableWrongFalsely : Prop := fnExactKeepTableRow.holds Try.pinned (OpenSpec.ofChange fnExactKeepTableWrong)

/-- 'laws.FnExactSortPool': WHATEVER THE INPUT: true; the input reads as it did. -/
def fnExactSortPoolSpec : ChangeSpec := { name := "fnExactSortPool", fn := fun _ => fun
  | [d] => { results := [.lit (.bool true)], args := [d] }
  | _ => none }
def fnExactSortPoolRow : OpenClaim := { program := "ytlgpejiepogopaa", sum := "29f60d348b515a727e9469bdc8bab4303d8261d9a3df18bad62fc05a4468fb99", func := "loop.example/g01210/laws.FnExactSortPool", spec := "fnExactSortPool", unfollowed := true, recurses := true, plainKeys := false, apart := false }
def FnExactSortPoolSaid : Prop := fnExactSortPoolRow.holds Try.pinned (OpenSpec.ofChange fnExactSortPoolSpec)

/-- ITS FALSE NEIGHBOUR: 'it returns false'. Refute it at one input. -/
def fnExactSortPoolWrong : ChangeSpec := { name := "fnExactSortPool", fn := fun _ => fun
  | [d] => { results := [.lit (.bool false)], args := [d] }
  | _ => none }
def FnExactSortPoolWrongFalsely : Prop := fnExactSortPoolRow.holds Try.pinned (OpenSpec.ofChange fnExactSortPoolWrong)

/-- 'laws.FnExactBoundFor': WHATEVER THE INPUT: true; the input reads as it did. -/
def fnExactBoundForSpec : ChangeSpec := { name := "fnExactBoundFor", fn := fun _ => fun
  | [d1, d2, d3, d4] => { results := [.lit (.bool true)], args := [d1, d2, d3, d4] }
  | _ => none }
def fnExactBoundForRow : OpenClaim := { program := "ytlgpejiepogopaa", sum := "29f60d348b515a727e9469bdc8bab4303d8261d9a3df18bad62fc05a4468fb99", func := "loop.example/g01210/laws.FnExactBoundFor", spec := "fnExactBoundFor", unfollowed := true, recurses := true, plainKeys := false, apart := false }
def FnExactBoundForSaid : Prop := fnExactBoundForRow.holds Try.pinned (OpenSpec.ofChange fnExactBoundForSpec)

/-- ITS FALSE NEIGHBOUR: 'it returns false'. Refute it at one input. -/
def fnExactBoundForWrong : ChangeSpec := { name := "fnExactBoundFor", fn := fun _ => fun
  | [d1, d2, d3, d4] => { results := [.lit (.bool false)], args := [d1, d2, d3, d4] }
  | _ => none }
def FnExactBoundForWrongFalsely : Prop := fnExactBoundForRow.holds Try.pinned (OpenSpec.ofChange fnExactBoundForWrong)

/-- 'laws.FnExactMeanPlace': WHATEVER THE INPUT: true; the input reads as it did. -/
def fnExactMeanPlaceSpec : ChangeSpec := { name := "fnExactMeanPlace", fn := fun _ => fun
  | [d1, d2] => { results := [.lit (.bool true)], args := [d1, d2] }
  | _ => none }
def fnExactMeanPlaceRow : OpenClaim := { program := "ytlgpejiepogopaa", sum := "29f60d348b515a727e9469bdc8bab4303d8261d9a3df18bad62fc05a4468fb99", func := "loop.example/g01210/laws.FnExactMeanPlace", spec := "fnExactMeanPlace", unfollowed := true, recurses := true, plainKeys := false, apart := false }
def FnExactMeanPlaceSaid : Prop := fnExactMeanPlaceRow.holds Try.pinned (OpenSpec.ofChange fnExactMeanPlaceSpec)

/-- ITS FALSE NEIGHBOUR: 'it returns false'. Refute it at one input. -/
def fnExactMeanPlaceWrong : ChangeSpec := { name := "fnExactMeanPlace", fn := fun _ => fun
  | [d1, d2] => { results := [.lit (.bool false)], args := [d1, d2] }
  | _ => none }
def FnExactMeanPlaceWrongFalsely : Prop := fnExactMeanPlaceRow.holds Try.pinned (OpenSpec.ofChange fnExactMeanPlaceWrong)

/-- 'laws.FnExactChanceHits': WHATEVER THE INPUT: true; the input reads as it did. -/
def fnExactChanceHitsSpec : ChangeSpec := { name := "fnExactChanceHits", fn := fun _ => fun
  | [d1, d2, d3] => { results := [.lit (.bool true)], args := [d1, d2, d3] }
  | _ => none }
def fnExactChanceHitsRow : OpenClaim := { program := "ytlgpejiepogopaa", sum := "29f60d348b515a727e9469bdc8bab4303d8261d9a3df18bad62fc05a4468fb99", func := "loop.example/g01210/laws.FnExactChanceHits", spec := "fnExactChanceHits", unfollowed := true, recurses := true, plainKeys := false, apart := false }
def FnExactChanceHitsSaid : Prop := fnExactChanceHitsRow.holds Try.pinned (OpenSpec.ofChange fnExactChanceHitsSpec)

/-- ITS FALSE NEIGHBOUR: 'it returns false'. Refute it at one input. -/
def fnExactChanceHitsWrong : ChangeSpec := { name := "fnExactChanceHits", fn := fun _ => fun
  | [d1, d2, d3] => { results := [.lit (.bool false)], args := [d1, d2, d3] }
  | _ => none }
def FnExactChanceHitsWrongFalsely : Prop := fnExactChanceHitsRow.holds Try.pinned (OpenSpec.ofChange fnExactChanceHitsWrong)

/-- 'laws.FnExactPatternOf': WHATEVER THE INPUT: true; the input reads as it did. -/
def fnExactPatternOfSpec : ChangeSpec := { name := "fnExactPatternOf", fn := fun _ => fun
  | [d1, d2] => { results := [.lit (.bool true)], args := [d1, d2] }
  | _ => none }
def fnExactPatternOfRow : OpenClaim := { program := "ytlgpejiepogopaa", sum := "29f60d348b515a727e9469bdc8bab4303d8261d9a3df18bad62fc05a4468fb99", func := "loop.example/g01210/laws.FnExactPatternOf", spec := "fnExactPatternOf", unfollowed := true, recurses := true, plainKeys := false, apart := false }
def FnExactPatternOfSaid : Prop := fnExactPatternOfRow.holds Try.pinned (OpenSpec.ofChange fnExactPatternOfSpec)

/-- ITS FALSE NEIGHBOUR: 'it returns false'. Refute it at one input. -/
def fnExactPatternOfWrong : ChangeSpec := { name := "fnExactPatternOf", fn := fun _ => fun
  | [d1, d2] => { results := [.lit (.bool false)], args := [d1, d2] }
  | _ => none }
def FnExactPatternOfWrongFalsely : Prop := fnExactPatternOfRow.holds Try.pinned (OpenSpec.ofChange fnExactPatternOfWrong)

/-- 'laws.FnExactMeanKept': WHATEVER THE INPUT: true; the input reads as it did. -/
def fnExactMeanKeptSpec : ChangeSpec := { name := "fnExactMeanKept", fn := fun _ => fun
  | [d1, d2] => { results := [.lit (.bool true)], args := [d1, d2] }
  | _ => none }
def fnExactMeanKeptRow : OpenClaim := { program := "ytlgpejiepogopaa", sum := "29f60d348b515a727e9469bdc8bab4303d8261d9a3df18bad62fc05a4468fb99", func := "loop.example/g01210/laws.FnExactMeanKept", spec := "fnExactMeanKept", unfollowed := true, recurses := true, plainKeys := false, apart := false }
def FnExactMeanKeptSaid : Prop := fnExactMeanKeptRow.holds Try.pinned (OpenSpec.ofChange fnExactMeanKeptSpec)

/-- ITS FALSE NEIGHBOUR: 'it returns false'. Refute it at one input. -/
def fnExactMeanKeptWrong : ChangeSpec := { name := "fnExactMeanKept", fn := fun _ => fun
  | [d1, d2] => { results := [.lit (.bool false)], args := [d1, d2] }
  | _ => none }
def FnExactMeanKeptWrongFalsely : Prop := fnExactMeanKeptRow.holds Try.pinned (OpenSpec.ofChange fnExactMeanKeptWrong)

/-- 'laws.FnExactMeanDistinct': WHATEVER THE INPUT: true; the input reads as it did. -/
def fnExactMeanDistinctSpec : ChangeSpec := { name := "fnExactMeanDistinct", fn := fun _ => fun
  | [d] => { results := [.lit (.bool true)], args := [d] }
  | _ => none }
def fnExactMeanDistinctRow : OpenClaim := { program := "ytlgpejiepogopaa", sum := "29f60d348b515a727e9469bdc8bab4303d8261d9a3df18bad62fc05a4468fb99", func := "loop.example/g01210/laws.FnExactMeanDistinct", spec := "fnExactMeanDistinct", unfollowed := true, recurses := true, plainKeys := false, apart := false }
def FnExactMeanDistinctSaid : Prop := fnExactMeanDistinctRow.holds Try.pinned (OpenSpec.ofChange fnExactMeanDistinctSpec)

/-- ITS FALSE NEIGHBOUR: 'it returns false'. Refute it at one input. -/
def fnExactMeanDistinctWrong : ChangeSpec := { name := "fnExactMeanDistinct", fn := fun _ => fun
  | [d] => { results := [.lit (.bool false)], args := [d] }
  | _ => none }
def FnExactMeanDistinctWrongFalsely : Prop := fnExactMeanDistinctRow.holds Try.pinned (OpenSpec.ofChange fnExactMeanDistinctWrong)

/-- 'laws.FnExactWaysOfPattern': WHATEVER THE INPUT: true; the input reads as it did. -/
def fnExactWaysOfPatternSpec : ChangeSpec := { name := "fnExactWaysOfPattern", fn := fun _ => fun
  | [d1, d2] => { results := [.lit (.bool true)], args := [d1, d2] }
  | _ => none }
def fnExactWaysOfPatternRow : OpenClaim := { program := "ytlgpejiepogopaa", sum := "29f60d348b515a727e9469bdc8bab4303d8261d9a3df18bad62fc05a4468fb99", func := "loop.example/g01210/laws.FnExactWaysOfPattern", spec := "fnExactWaysOfPattern", unfollowed := true, recurses := true, plainKeys := false, apart := false }
def FnExactWaysOfPatternSaid : Prop := fnExactWaysOfPatternRow.holds Try.pinned (OpenSpec.ofChange fnExactWaysOfPatternSpec)

/-- ITS FALSE NEIGHBOUR: 'it returns false'. Refute it at one input. -/
def fnExactWaysOfPatternWrong : ChangeSpec := { name := "fnExactWaysOfPattern", fn := fun _ => fun
  | [d1, d2] => { results := [.lit (.bool false)], args := [d1, d2] }
  | _ => none }
def FnExactWaysOfPatternWrongFalsely : Prop := fnExactWaysOfPatternRow.holds Try.pinned (OpenSpec.ofChange fnExactWaysOfPatternWrong)

/-- 'laws.FnExactRingsOf': WHATEVER THE INPUT: true; the input reads as it did. -/
def fnExactRingsOfSpec : ChangeSpec := { name := "fnExactRingsOf", fn := fun _ => fun
  | [d] => { results := [.lit (.bool true)], args := [d] }
  | _ => none }
def fnExactRingsOfRow : OpenClaim := { program := "ytlgpejiepogopaa", sum := "29f60d348b515a727e9469bdc8bab4303d8261d9a3df18bad62fc05a4468fb99", func := "loop.example/g01210/laws.FnExactRingsOf", spec := "fnExactRingsOf", unfollowed := true, recurses := true, plainKeys := false, apart := false }
def FnExactRingsOfSaid : Prop := fnExactRingsOfRow.holds Try.pinned (OpenSpec.ofChange fnExactRingsOfSpec)

/-- ITS FALSE NEIGHBOUR: 'it returns false'. Refute it at one input. -/
def fnExactRingsOfWrong : ChangeSpec := { name := "fnExactRingsOf", fn := fun _ => fun
  | [d] => { results := [.lit (.bool false)], args := [d] }
  | _ => none }
def FnExactRingsOfWrongFalsely : Prop := fnExactRingsOfRow.holds Try.pinned (OpenSpec.ofChange fnExactRingsOfWrong)

/-- 'laws.FnExactPatternsOf': WHATEVER THE INPUT: true; the input reads as it did. -/
def fnExactPatternsOfSpec : ChangeSpec := { name := "fnExactPatternsOf", fn := fun _ => fun
  | [d] => { results := [.lit (.bool true)], args := [d] }
  | _ => none }
def fnExactPatternsOfRow : OpenClaim := { program := "ytlgpejiepogopaa", sum := "29f60d348b515a727e9469bdc8bab4303d8261d9a3df18bad62fc05a4468fb99", func := "loop.example/g01210/laws.FnExactPatternsOf", spec := "fnExactPatternsOf", unfollowed := true, recurses := true, plainKeys := false, apart := false }
def FnExactPatternsOfSaid : Prop := fnExactPatternsOfRow.holds Try.pinned (OpenSpec.ofChange fnExactPatternsOfSpec)

/-- ITS FALSE NEIGHBOUR: 'it returns false'. Refute it at one input. -/
def fnExactPatternsOfWrong : ChangeSpec := { name := "fnExactPatternsOf", fn := fun _ => fun
  | [d] => { results := [.lit (.bool false)], args := [d] }
  | _ => none }
def FnExactPatternsOfWrongFalsely : Prop := fnExactPatternsOfRow.holds Try.pinned (OpenSpec.ofChange fnExactPatternsOfWrong)

/-- 'laws.FnExactChanceBetter': WHATEVER THE INPUT: true; the input reads as it did. -/
def fnExactChanceBetterSpec : ChangeSpec := { name := "fnExactChanceBetter", fn := fun _ => fun
  | [d1, d2] => { results := [.lit (.bool true)], args := [d1, d2] }
  | _ => none }
def fnExactChanceBetterRow : OpenClaim := { program := "ytlgpejiepogopaa", sum := "29f60d348b515a727e9469bdc8bab4303d8261d9a3df18bad62fc05a4468fb99", func := "loop.example/g01210/laws.FnExactChanceBetter", spec := "fnExactChanceBetter", unfollowed := true, recurses := true, plainKeys := false, apart := false }
def FnExactChanceBetterSaid : Prop := fnExactChanceBetterRow.holds Try.pinned (OpenSpec.ofChange fnExactChanceBetterSpec)

/-- ITS FALSE NEIGHBOUR: 'it returns false'. Refute it at one input. -/
def fnExactChanceBetterWrong : ChangeSpec := { name := "fnExactChanceBetter", fn := fun _ => fun
  | [d1, d2] => { results := [.lit (.bool false)], args := [d1, d2] }
  | _ => none }
def FnExactChanceBetterWrongFalsely : Prop := fnExactChanceBetterRow.holds Try.pinned (OpenSpec.ofChange fnExactChanceBetterWrong)

/- THE SECOND FORM. 'bulk': how many values and letters a reading holds, each counted each time it is reached (what is shared counts as often as it is met; a slice's spare places count too). A statement '..UptoSaid' is the law's where the arguments, and the package variables that the reading takes, are together of bulk at most 1048576: NARROWER than '..Said'. Prove '..Said' where nothing that the law and all that it calls make is longer than what came in: it says more and counts as full. Else prove '..UptoSaid'. A law counts once. -/
mutual
def uptoBulk {H : Type} : DataW H → Nat
  | .lit (.string bytes) => bytes.length + 1
  | .lit _ => 1
  | .nil => 1
  | .ptr d => uptoBulk d + 1
  | .slice elems spare => uptoBulkAll elems + uptoBulkAll spare + 1
  | .agg parts => uptoBulkAll parts + 1
  | .iface _ d => uptoBulk d + 1
  | .map entries => uptoBulkEntries entries + 1
  | .held _ => 1
def uptoBulkAll {H : Type} : List (DataW H) → Nat
  | [] => 0
  | d :: r => uptoBulk d + uptoBulkAll r
def uptoBulkEntries {H : Type} : List (Lit × DataW H) → Nat
  | [] => 0
  | x :: r => uptoBulkEntry x + uptoBulkEntries r
def uptoBulkEntry {H : Type} : Lit × DataW H → Nat
  | (.string bytes, d) => bytes.length + uptoBulk d + 1
  | (_, d) => uptoBulk d + 1
 end
def uptoSmall : (H : Type) → List (DataW H) → Bool := fun _ ds => decide (uptoBulkAll ds ≤ 1048576)
def OpenSpec.upto (s : _root_.Go.ChangeSpec) : _root_.Go.OpenSpec := { _root_.Go.OpenSpec.ofChange s with cond := some uptoSmall }

/-- 'laws.FnExactSortDie', WHERE WHAT IT READS IS OF BULK AT MOST 1048576: true; the input reads as it did. -/
def fnExactSortDieUptoRow : OpenClaim := { program := "ytlgpejiepogopaa", sum := "29f60d348b515a727e9469bdc8bab4303d8261d9a3df18bad62fc05a4468fb99", func := "loop.example/g01210/laws.FnExactSortDie", spec := "fnExactSortDie", unfollowed := true, recurses := true, plainKeys := false, apart := false, narrowed := true }
def FnExactSortDieUptoSaid : Prop := fnExactSortDieUptoRow.holds Try.pinned (OpenSpec.upto fnExactSortDieSpec)

/-- 'laws.FnExactHitTable', WHERE WHAT IT READS IS OF BULK AT MOST 1048576: true; the input reads as it did. -/
def fnExactHitTableUptoRow : OpenClaim := { program := "ytlgpejiepogopaa", sum := "29f60d348b515a727e9469bdc8bab4303d8261d9a3df18bad62fc05a4468fb99", func := "loop.example/g01210/laws.FnExactHitTable", spec := "fnExactHitTable", unfollowed := true, recurses := true, plainKeys := false, apart := false, narrowed := true }
def FnExactHitTableUptoSaid : Prop := fnExactHitTableUptoRow.holds Try.pinned (OpenSpec.upto fnExactHitTableSpec)

/-- 'laws.FnExactPlaceTable', WHERE WHAT IT READS IS OF BULK AT MOST 1048576: true; the input reads as it did. -/
def fnExactPlaceTableUptoRow : OpenClaim := { program := "ytlgpejiepogopaa", sum := "29f60d348b515a727e9469bdc8bab4303d8261d9a3df18bad62fc05a4468fb99", func := "loop.example/g01210/laws.FnExactPlaceTable", spec := "fnExactPlaceTable", unfollowed := true, recurses := true, plainKeys := false, apart := false, narrowed := true }
def FnExactPlaceTableUptoSaid : Prop := fnExactPlaceTableUptoRow.holds Try.pinned (OpenSpec.upto fnExactPlaceTableSpec)

/-- 'laws.FnExactDropTable', WHERE WHAT IT READS IS OF BULK AT MOST 1048576: true; the input reads as it did. -/
def fnExactDropTableUptoRow : OpenClaim := { program := "ytlgpejiepogopaa", sum := "29f60d348b515a727e9469bdc8bab4303d8261d9a3df18bad62fc05a4468fb99", func := "loop.example/g01210/laws.FnExactDropTable", spec := "fnExactDropTable", unfollowed := true, recurses := true, plainKeys := false, apart := false, narrowed := true }
def FnExactDropTableUptoSaid : Prop := fnExactDropTableUptoRow.holds Try.pinned (OpenSpec.upto fnExactDropTableSpec)

/-- 'laws.FnExactKeepTable', WHERE WHAT IT READS IS OF BULK AT MOST 1048576: true; the input reads as it did. -/
def fnExactKeepTableUptoRow : OpenClaim := { program := "ytlgpejiepogopaa", sum := "29f60d348b515a727e9469bdc8bab4303d8261d9a3df18bad62fc05a4468fb99", func := "loop.example/g01210/laws.FnExactKeepTable", spec := "fnExactKeepTable", unfollowed := true, recurses := true, plainKeys := false, apart := false, narrowed := true }
def FnExactKeepTableUptoSaid : Prop := fnExactKeepTableUptoRow.holds Try.pinned (OpenSpec.upto fnExactKeepTableSpec)

/-- 'laws.FnExactSortPool', WHERE WHAT IT READS IS OF BULK AT MOST 1048576: true; the input reads as it did. -/
def fnExactSortPoolUptoRow : OpenClaim := { program := "ytlgpejiepogopaa", sum := "29f60d348b515a727e9469bdc8bab4303d8261d9a3df18bad62fc05a4468fb99", func := "loop.example/g01210/laws.FnExactSortPool", spec := "fnExactSortPool", unfollowed := true, recurses := true, plainKeys := false, apart := false, narrowed := true }
def FnExactSortPoolUptoSaid : Prop := fnExactSortPoolUptoRow.holds Try.pinned (OpenSpec.upto fnExactSortPoolSpec)

/-- 'laws.FnExactBoundFor', WHERE WHAT IT READS IS OF BULK AT MOST 1048576: true; the input reads as it did. -/
def fnExactBoundForUptoRow : OpenClaim := { program := "ytlgpejiepogopaa", sum := "29f60d348b515a727e9469bdc8bab4303d8261d9a3df18bad62fc05a4468fb99", func := "loop.example/g01210/laws.FnExactBoundFor", spec := "fnExactBoundFor", unfollowed := true, recurses := true, plainKeys := false, apart := false, narrowed := true }
def FnExactBoundForUptoSaid : Prop := fnExactBoundForUptoRow.holds Try.pinned (OpenSpec.upto fnExactBoundForSpec)

/-- 'laws.FnExactMeanPlace', WHERE WHAT IT READS IS OF BULK AT MOST 1048576: true; the input reads as it did. -/
def fnExactMeanPlaceUptoRow : OpenClaim := { program := "ytlgpejiepogopaa", sum := "29f60d348b515a727e9469bdc8bab4303d8261d9a3df18bad62fc05a4468fb99", func := "loop.example/g01210/laws.FnExactMeanPlace", spec := "fnExactMeanPlace", unfollowed := true, recurses := true, plainKeys := false, apart := false, narrowed := true }
def FnExactMeanPlaceUptoSaid : Prop := fnExactMeanPlaceUptoRow.holds Try.pinned (OpenSpec.upto fnExactMeanPlaceSpec)

/-- 'laws.FnExactChanceHits', WHERE WHAT IT READS IS OF BULK AT MOST 1048576: true; the input reads as it did. -/
def fnExactChanceHitsUptoRow : OpenClaim := { program := "ytlgpejiepogopaa", sum := "29f60d348b515a727e9469bdc8bab4303d8261d9a3df18bad62fc05a4468fb99", func := "loop.example/g01210/laws.FnExactChanceHits", spec := "fnExactChanceHits", unfollowed := true, recurses := true, plainKeys := false, apart := false, narrowed := true }
def FnExactChanceHitsUptoSaid : Prop := fnExactChanceHitsUptoRow.holds Try.pinned (OpenSpec.upto fnExactChanceHitsSpec)

/-- 'laws.FnExactPatternOf', WHERE WHAT IT READS IS OF BULK AT MOST 1048576: true; the input reads as it did. -/
def fnExactPatternOfUptoRow : OpenClaim := { program := "ytlgpejiepogopaa", sum := "29f60d348b515a727e9469bdc8bab4303d8261d9a3df18bad62fc05a4468fb99", func := "loop.example/g01210/laws.FnExactPatternOf", spec := "fnExactPatternOf", unfollowed := true, recurses := true, plainKeys := false, apart := false, narrowed := true }
def FnExactPatternOfUptoSaid : Prop := fnExactPatternOfUptoRow.holds Try.pinned (OpenSpec.upto fnExactPatternOfSpec)

/-- 'laws.FnExactMeanKept', WHERE WHAT IT READS IS OF BULK AT MOST 1048576: true; the input reads as it did. -/
def fnExactMeanKeptUptoRow : OpenClaim := { program := "ytlgpejiepogopaa", sum := "29f60d348b515a727e9469bdc8bab4303d8261d9a3df18bad62fc05a4468fb99", func := "loop.example/g01210/laws.FnExactMeanKept", spec := "fnExactMeanKept", unfollowed := true, recurses := true, plainKeys := false, apart := false, narrowed := true }
def FnExactMeanKeptUptoSaid : Prop := fnExactMeanKeptUptoRow.holds Try.pinned (OpenSpec.upto fnExactMeanKeptSpec)

/-- 'laws.FnExactMeanDistinct', WHERE WHAT IT READS IS OF BULK AT MOST 1048576: true; the input reads as it did. -/
def fnExactMeanDistinctUptoRow : OpenClaim := { program := "ytlgpejiepogopaa", sum := "29f60d348b515a727e9469bdc8bab4303d8261d9a3df18bad62fc05a4468fb99", func := "loop.example/g01210/laws.FnExactMeanDistinct", spec := "fnExactMeanDistinct", unfollowed := true, recurses := true, plainKeys := false, apart := false, narrowed := true }
def FnExactMeanDistinctUptoSaid : Prop := fnExactMeanDistinctUptoRow.holds Try.pinned (OpenSpec.upto fnExactMeanDistinctSpec)

/-- 'laws.FnExactWaysOfPattern', WHERE WHAT IT READS IS OF BULK AT MOST 1048576: true; the input reads as it did. -/
def fnExactWaysOfPatternUptoRow : OpenClaim := { program := "ytlgpejiepogopaa", sum := "29f60d348b515a727e9469bdc8bab4303d8261d9a3df18bad62fc05a4468fb99", func := "loop.example/g01210/laws.FnExactWaysOfPattern", spec := "fnExactWaysOfPattern", unfollowed := true, recurses := true, plainKeys := false, apart := false, narrowed := true }
def FnExactWaysOfPatternUptoSaid : Prop := fnExactWaysOfPatternUptoRow.holds Try.pinned (OpenSpec.upto fnExactWaysOfPatternSpec)

/-- 'laws.FnExactRingsOf', WHERE WHAT IT READS IS OF BULK AT MOST 1048576: true; the input reads as it did. -/
def fnExactRingsOfUptoRow : OpenClaim := { program := "ytlgpejiepogopaa", sum := "29f60d348b515a727e9469bdc8bab4303d8261d9a3df18bad62fc05a4468fb99", func := "loop.example/g01210/laws.FnExactRingsOf", spec := "fnExactRingsOf", unfollowed := true, recurses := true, plainKeys := false, apart := false, narrowed := true }
def FnExactRingsOfUptoSaid : Prop := fnExactRingsOfUptoRow.holds Try.pinned (OpenSpec.upto fnExactRingsOfSpec)

/-- 'laws.FnExactPatternsOf', WHERE WHAT IT READS IS OF BULK AT MOST 1048576: true; the input reads as it did. -/
def fnExactPatternsOfUptoRow : OpenClaim := { program := "ytlgpejiepogopaa", sum := "29f60d348b515a727e9469bdc8bab4303d8261d9a3df18bad62fc05a4468fb99", func := "loop.example/g01210/laws.FnExactPatternsOf", spec := "fnExactPatternsOf", unfollowed := true, recurses := true, plainKeys := false, apart := false, narrowed := true }
def FnExactPatternsOfUptoSaid : Prop := fnExactPatternsOfUptoRow.holds Try.pinned (OpenSpec.upto fnExactPatternsOfSpec)

/-- 'laws.FnExactChanceBetter', WHERE WHAT IT READS IS OF BULK AT MOST 1048576: true; the input reads as it did. -/
def fnExactChanceBetterUptoRow : OpenClaim := { program := "ytlgpejiepogopaa", sum := "29f60d348b515a727e9469bdc8bab4303d8261d9a3df18bad62fc05a4468fb99", func := "loop.example/g01210/laws.FnExactChanceBetter", spec := "fnExactChanceBetter", unfollowed := true, recurses := true, plainKeys := false, apart := false, narrowed := true }
def FnExactChanceBetterUptoSaid : Prop := fnExactChanceBetterUptoRow.holds Try.pinned (OpenSpec.upto fnExactChanceBetterSpec)

end Rows
end Go.Proofs.Ytlgpejiepogopaa
