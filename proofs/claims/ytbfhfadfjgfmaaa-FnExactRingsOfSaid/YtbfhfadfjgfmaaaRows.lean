/-
  No cell of these rows narrows 'for every input' (looked for: loops, veiled, ifaces, maps, wideKeys, modest, calm, conditions, laid).
  DERIVED. THE GIVEN ROWS OF THIS SEAT. 7 by the template 'for every input the law returns true; each argument reads behind the call as it read before'; 0 by the template 'total and deterministic' (their statements: YtbfhfadfjgfmaaaTotals.lean).
  GIVEN WITH THE SEED: the statements are not yours to turn. If you find one false, say at which input.
  Laid BY PROGRAM, IN A SANDBOX (cutbox-rows.mjs): the forced cells as the released guide's own fill.sh prints them over the translation a54656a03e582605… (all of the seat's roots in one cut). By AI agents, Wed Nov 11 2026. No macro, syntax, notation, axiom, sorry.
-/
import Derived.Test.YtbfhfadfjgfmaaaChecked
import GoSem.Claim
import GoSem.ClaimJoined
import GoSem.ClaimMapViews
import Derived.JoinedTies
import Derived.KernelRfl
namespace Go.Proofs.Ytbfhfadfjgfmaaa
/- THE CELL 'sum', in the pinned program and in every row, IS THE sha256 OF THE DUMP (.gsa) THAT YtbfhfadfjgfmaaaProg.lean LOADS. Nothing in Lean hashes anything: it is a label: what it is worth is what the hold of that sum in a sandbox is worth. -/
noncomputable def Try.pinned : Pinned := { name := "ytbfhfadfjgfmaaa", sum := "a54656a03e5826054a434e2e5878b248a5530c84b01993f07dde52f9eeb8a96e", checked := Try.checked }
namespace Rows
def none {H : Type} : Left H := { results := [], args := [] }

/-- 'laws.FnExactSortPool': WHATEVER THE INPUT: true; the input reads as it did. -/
def fnExactSortPoolSpec : ChangeSpec := { name := "fnExactSortPool", fn := fun _ => fun
  | [d] => { results := [.lit (.bool true)], args := [d] }
  | _ => none }
def fnExactSortPoolRow : OpenClaim := { program := "ytbfhfadfjgfmaaa", sum := "a54656a03e5826054a434e2e5878b248a5530c84b01993f07dde52f9eeb8a96e", func := "loop.example/g01210/laws.FnExactSortPool", spec := "fnExactSortPool", unfollowed := true, recurses := true, plainKeys := false, apart := false }
def FnExactSortPoolSaid : Prop := fnExactSortPoolRow.holds Try.pinned (OpenSpec.ofChange fnExactSortPoolSpec)

/-- ITS FALSE NEIGHBOUR: 'it returns false'. Refute it at one input. -/
def fnExactSortPoolWrong : ChangeSpec := { name := "fnExactSortPool", fn := fun _ => fun
  | [d] => { results := [.lit (.bool false)], args := [d] }
  | _ => none }
def FnExactSortPoolWrongFalsely : Prop := fnExactSortPoolRow.holds Try.pinned (OpenSpec.ofChange fnExactSortPoolWrong)

/-- 'laws.FnExactPatternOf': WHATEVER THE INPUT: true; the input reads as it did. -/
def fnExactPatternOfSpec : ChangeSpec := { name := "fnExactPatternOf", fn := fun _ => fun
  | [d1, d2] => { results := [.lit (.bool true)], args := [d1, d2] }
  | _ => none }
def fnExactPatternOfRow : OpenClaim := { program := "ytbfhfadfjgfmaaa", sum := "a54656a03e5826054a434e2e5878b248a5530c84b01993f07dde52f9eeb8a96e", func := "loop.example/g01210/laws.FnExactPatternOf", spec := "fnExactPatternOf", unfollowed := true, recurses := true, plainKeys := false, apart := false }
def FnExactPatternOfSaid : Prop := fnExactPatternOfRow.holds Try.pinned (OpenSpec.ofChange fnExactPatternOfSpec)

/-- ITS FALSE NEIGHBOUR: 'it returns false'. Refute it at one input. -/
def fnExactPatternOfWrong : ChangeSpec := { name := "fnExactPatternOf", fn := fun _ => fun
  | [d1, d2] => { results := [.lit (.bool false)], args := [d1, d2] }
  | _ => none }
def FnExactPatternOfWrongFalsely : Prop := fnExactPatternOfRow.holds Try.pinned (OpenSpec.ofChange fnExactPatternOfWrong)

/-- 'laws.FnExactWaysOfPattern': WHATEVER THE INPUT: true; the input reads as it did. -/
def fnExactWaysOfPatternSpec : ChangeSpec := { name := "fnExactWaysOfPattern", fn := fun _ => fun
  | [d1, d2] => { results := [.lit (.bool true)], args := [d1, d2] }
  | _ => none }
def fnExactWaysOfPatternRow : OpenClaim := { program := "ytbfhfadfjgfmaaa", sum := "a54656a03e5826054a434e2e5878b248a5530c84b01993f07dde52f9eeb8a96e", func := "loop.example/g01210/laws.FnExactWaysOfPattern", spec := "fnExactWaysOfPattern", unfollowed := true, recurses := true, plainKeys := false, apart := false }
def FnExactWaysOfPatternSaid : Prop := fnExactWaysOfPatternRow.holds Try.pinned (OpenSpec.ofChange fnExactWaysOfPatternSpec)

/-- ITS FALSE NEIGHBOUR: 'it returns false'. Refute it at one input. -/
def fnExactWaysOfPatternWrong : ChangeSpec := { name := "fnExactWaysOfPattern", fn := fun _ => fun
  | [d1, d2] => { results := [.lit (.bool false)], args := [d1, d2] }
  | _ => none }
def FnExactWaysOfPatternWrongFalsely : Prop := fnExactWaysOfPatternRow.holds Try.pinned (OpenSpec.ofChange fnExactWaysOfPatternWrong)

/-- 'laws.FnExactPatternsOf': WHATEVER THE INPUT: true; the input reads as it did. -/
def fnExactPatternsOfSpec : ChangeSpec := { name := "fnExactPatternsOf", fn := fun _ => fun
  | [d] => { results := [.lit (.bool true)], args := [d] }
  | _ => none }
def fnExactPatternsOfRow : OpenClaim := { program := "ytbfhfadfjgfmaaa", sum := "a54656a03e5826054a434e2e5878b248a5530c84b01993f07dde52f9eeb8a96e", func := "loop.example/g01210/laws.FnExactPatternsOf", spec := "fnExactPatternsOf", unfollowed := true, recurses := true, plainKeys := false, apart := false }
def FnExactPatternsOfSaid : Prop := fnExactPatternsOfRow.holds Try.pinned (OpenSpec.ofChange fnExactPatternsOfSpec)

/-- ITS FALSE NEIGHBOUR: 'it returns false'. Refute it at one input. -/
def fnExactPatternsOfWrong : ChangeSpec := { name := "fnExactPatternsOf", fn := fun _ => fun
  | [d] => { results := [.lit (.bool false)], args := [d] }
  | _ => none }
def FnExactPatternsOfWrongFalsely : Prop := fnExactPatternsOfRow.holds Try.pinned (OpenSpec.ofChange fnExactPatternsOfWrong)

/-- 'laws.FnExactChanceBetter': WHATEVER THE INPUT: true; the input reads as it did. -/
def fnExactChanceBetterSpec : ChangeSpec := { name := "fnExactChanceBetter", fn := fun _ => fun
  | [d1, d2] => { results := [.lit (.bool true)], args := [d1, d2] }
  | _ => none }
def fnExactChanceBetterRow : OpenClaim := { program := "ytbfhfadfjgfmaaa", sum := "a54656a03e5826054a434e2e5878b248a5530c84b01993f07dde52f9eeb8a96e", func := "loop.example/g01210/laws.FnExactChanceBetter", spec := "fnExactChanceBetter", unfollowed := true, recurses := true, plainKeys := false, apart := false }
def FnExactChanceBetterSaid : Prop := fnExactChanceBetterRow.holds Try.pinned (OpenSpec.ofChange fnExactChanceBetterSpec)

/-- ITS FALSE NEIGHBOUR: 'it returns false'. Refute it at one input. -/
def fnExactChanceBetterWrong : ChangeSpec := { name := "fnExactChanceBetter", fn := fun _ => fun
  | [d1, d2] => { results := [.lit (.bool false)], args := [d1, d2] }
  | _ => none }
def FnExactChanceBetterWrongFalsely : Prop := fnExactChanceBetterRow.holds Try.pinned (OpenSpec.ofChange fnExactChanceBetterWrong)

/-- 'laws.FnExactRingsOf': WHATEVER THE INPUT: true; the input reads as it did. -/
def fnExactRingsOfSpec : ChangeSpec := { name := "fnExactRingsOf", fn := fun _ => fun
  | [d] => { results := [.lit (.bool true)], args := [d] }
  | _ => none }
def fnExactRingsOfRow : OpenClaim := { program := "ytbfhfadfjgfmaaa", sum := "a54656a03e5826054a434e2e5878b248a5530c84b01993f07dde52f9eeb8a96e", func := "loop.example/g01210/laws.FnExactRingsOf", spec := "fnExactRingsOf", unfollowed := true, recurses := true, plainKeys := false, apart := false }
def FnExactRingsOfSaid : Prop := fnExactRingsOfRow.holds Try.pinned (OpenSpec.ofChange fnExactRingsOfSpec)

/-- ITS FALSE NEIGHBOUR: 'it returns false'. Refute it at one input. -/
def fnExactRingsOfWrong : ChangeSpec := { name := "fnExactRingsOf", fn := fun _ => fun
  | [d] => { results := [.lit (.bool false)], args := [d] }
  | _ => none }
def FnExactRingsOfWrongFalsely : Prop := fnExactRingsOfRow.holds Try.pinned (OpenSpec.ofChange fnExactRingsOfWrong)

/-- 'laws.FnExactBeatTable': WHATEVER THE INPUT: true; the input reads as it did. -/
def fnExactBeatTableSpec : ChangeSpec := { name := "fnExactBeatTable", fn := fun _ => fun
  | [d] => { results := [.lit (.bool true)], args := [d] }
  | _ => none }
def fnExactBeatTableRow : OpenClaim := { program := "ytbfhfadfjgfmaaa", sum := "a54656a03e5826054a434e2e5878b248a5530c84b01993f07dde52f9eeb8a96e", func := "loop.example/g01210/laws.FnExactBeatTable", spec := "fnExactBeatTable", unfollowed := true, recurses := true, plainKeys := false, apart := false }
def FnExactBeatTableSaid : Prop := fnExactBeatTableRow.holds Try.pinned (OpenSpec.ofChange fnExactBeatTableSpec)

/-- ITS FALSE NEIGHBOUR: 'it returns false'. Refute it at one input. -/
def fnExactBeatTableWrong : ChangeSpec := { name := "fnExactBeatTable", fn := fun _ => fun
  | [d] => { results := [.lit (.bool false)], args := [d] }
  | _ => none }
def FnExactBeatTableWrongFalsely : Prop := fnExactBeatTableRow.holds Try.pinned (OpenSpec.ofChange fnExactBeatTableWrong)

/- THE SECOND FORM. 'bulk': how many values and letters a reading holds, each counted each time it is reached (what is shared counts as often as it is met; a slice's spare places count too). A statement '..UptoSaid' is the law's where the arguments, and the package variables that the reading takes, are together of bulk at most 1048576: NARROWER than '..Said'. Prove '..Said' where nothing that the law and all that it calls make is longer than what came in: it says more and counts as full. Else prove '..UptoSaid'. A law counts once. -/
mutual
def uptoBulk {H : Type} : DataW H → Nat
  | .lit (.string bytes) => bytes.length + 1
  | .lit _ => 1
  | .nil => 1
  | .ptr d => uptoBulk d + 1
  | .slice elems spare => uptoBulkAll elems + uptoBulkAll spare + 1
  | .agg parts => uptoBulkAll parts + 1
  | .iface _ d => uptoBulk d + 1
  | .map entries => uptoBulkEntries entries + 1
  | .held _ => 1
def uptoBulkAll {H : Type} : List (DataW H) → Nat
  | [] => 0
  | d :: r => uptoBulk d + uptoBulkAll r
def uptoBulkEntries {H : Type} : List (Lit × DataW H) → Nat
  | [] => 0
  | x :: r => uptoBulkEntry x + uptoBulkEntries r
def uptoBulkEntry {H : Type} : Lit × DataW H → Nat
  | (.string bytes, d) => bytes.length + uptoBulk d + 1
  | (_, d) => uptoBulk d + 1
 end
def uptoSmall : (H : Type) → List (DataW H) → Bool := fun _ ds => decide (uptoBulkAll ds ≤ 1048576)
def OpenSpec.upto (s : _root_.Go.ChangeSpec) : _root_.Go.OpenSpec := { _root_.Go.OpenSpec.ofChange s with cond := some uptoSmall }

/-- 'laws.FnExactSortPool', WHERE WHAT IT READS IS OF BULK AT MOST 1048576: true; the input reads as it did. -/
def fnExactSortPoolUptoRow : OpenClaim := { program := "ytbfhfadfjgfmaaa", sum := "a54656a03e5826054a434e2e5878b248a5530c84b01993f07dde52f9eeb8a96e", func := "loop.example/g01210/laws.FnExactSortPool", spec := "fnExactSortPool", unfollowed := true, recurses := true, plainKeys := false, apart := false, narrowed := true }
def FnExactSortPoolUptoSaid : Prop := fnExactSortPoolUptoRow.holds Try.pinned (OpenSpec.upto fnExactSortPoolSpec)

/-- 'laws.FnExactPatternOf', WHERE WHAT IT READS IS OF BULK AT MOST 1048576: true; the input reads as it did. -/
def fnExactPatternOfUptoRow : OpenClaim := { program := "ytbfhfadfjgfmaaa", sum := "a54656a03e5826054a434e2e5878b248a5530c84b01993f07dde52f9eeb8a96e", func := "loop.example/g01210/laws.FnExactPatternOf", spec := "fnExactPatternOf", unfollowed := true, recurses := true, plainKeys := false, apart := false, narrowed := true }
def FnExactPatternOfUptoSaid : Prop := fnExactPatternOfUptoRow.holds Try.pinned (OpenSpec.upto fnExactPatternOfSpec)

/-- 'laws.FnExactWaysOfPattern', WHERE WHAT IT READS IS OF BULK AT MOST 1048576: true; the input reads as it did. -/
def fnExactWaysOfPatternUptoRow : OpenClaim := { program := "ytbfhfadfjgfmaaa", sum := "a54656a03e5826054a434e2e5878b248a5530c84b01993f07dde52f9eeb8a96e", func := "loop.example/g01210/laws.FnExactWaysOfPattern", spec := "fnExactWaysOfPattern", unfollowed := true, recurses := true, plainKeys := false, apart := false, narrowed := true }
def FnExactWaysOfPatternUptoSaid : Prop := fnExactWaysOfPatternUptoRow.holds Try.pinned (OpenSpec.upto fnExactWaysOfPatternSpec)

/-- 'laws.FnExactPatternsOf', WHERE WHAT IT READS IS OF BULK AT MOST 1048576: true; the input reads as it did. -/
def fnExactPatternsOfUptoRow : OpenClaim := { program := "ytbfhfadfjgfmaaa", sum := "a54656a03e5826054a434e2e5878b248a5530c84b01993f07dde52f9eeb8a96e", func := "loop.example/g01210/laws.FnExactPatternsOf", spec := "fnExactPatternsOf", unfollowed := true, recurses := true, plainKeys := false, apart := false, narrowed := true }
def FnExactPatternsOfUptoSaid : Prop := fnExactPatternsOfUptoRow.holds Try.pinned (OpenSpec.upto fnExactPatternsOfSpec)

/-- 'laws.FnExactChanceBetter', WHERE WHAT IT READS IS OF BULK AT MOST 1048576: true; the input reads as it did. -/
def fnExactChanceBetterUptoRow : OpenClaim := { program := "ytbfhfadfjgfmaaa", sum := "a54656a03e5826054a434e2e5878b248a5530c84b01993f07dde52f9eeb8a96e", func := "loop.example/g01210/laws.FnExactChanceBetter", spec := "fnExactChanceBetter", unfollowed := true, recurses := true, plainKeys := false, apart := false, narrowed := true }
def FnExactChanceBetterUptoSaid : Prop := fnExactChanceBetterUptoRow.holds Try.pinned (OpenSpec.upto fnExactChanceBetterSpec)

/-- 'laws.FnExactRingsOf', WHERE WHAT IT READS IS OF BULK AT MOST 1048576: true; the input reads as it did. -/
def fnExactRingsOfUptoRow : OpenClaim := { program := "ytbfhfadfjgfmaaa", sum := "a54656a03e5826054a434e2e5878b248a5530c84b01993f07dde52f9eeb8a96e", func := "loop.example/g01210/laws.FnExactRingsOf", spec := "fnExactRingsOf", unfollowed := true, recurses := true, plainKeys := false, apart := false, narrowed := true }
def FnExactRingsOfUptoSaid : Prop := fnExactRingsOfUptoRow.holds Try.pinned (OpenSpec.upto fnExactRingsOfSpec)

/-- 'laws.FnExactBeatTable', WHERE WHAT IT READS IS OF BULK AT MOST 1048576: true; the input reads as it did. -/
def fnExactBeatTableUptoRow : OpenClaim := { program := "ytbfhfadfjgfmaaa", sum := "a54656a03e5826054a434e2e5878b248a5530c84b01993f07dde52f9eeb8a96e", func := "loop.example/g01210/laws.FnExactBeatTable", spec := "fnExactBeatTable", unfollowed := true, recurses := true, plainKeys := false, apart := false, narrowed := true }
def FnExactBeatTableUptoSaid : Prop := fnExactBeatTableUptoRow.holds Try.pinned (OpenSpec.upto fnExactBeatTableSpec)

end Rows
end Go.Proofs.Ytbfhfadfjgfmaaa
