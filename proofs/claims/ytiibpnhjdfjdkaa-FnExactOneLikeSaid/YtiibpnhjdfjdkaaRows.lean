/-
  No cell of these rows narrows 'for every input' (looked for: loops, veiled, ifaces, maps, wideKeys, modest, calm, conditions, laid).
  DERIVED. THE GIVEN ROWS OF THIS SEAT. 13 by the template 'for every input the law returns true; each argument reads behind the call as it read before'; 0 by the template 'total and deterministic' (their statements: YtiibpnhjdfjdkaaTotals.lean).
  GIVEN WITH THE SEED: the statements are not yours to turn. If you find one false, say at which input.
  Laid BY PROGRAM, IN A SANDBOX (cutbox-rows.mjs): the forced cells as the released guide's own fill.sh prints them over the translation c9523b6792416438… (all of the seat's roots in one cut). By AI agents, Wed Nov 11 2026. No macro, syntax, notation, axiom, sorry.
-/
import Derived.Test.YtiibpnhjdfjdkaaChecked
import GoSem.Claim
import GoSem.ClaimJoined
import GoSem.ClaimMapViews
import Derived.JoinedTies
import Derived.KernelRfl
namespace Go.Proofs.Ytiibpnhjdfjdkaa
/- THE CELL 'sum', in the pinned program and in every row, IS THE sha256 OF THE DUMP (.gsa) THAT YtiibpnhjdfjdkaaProg.lean LOADS. Nothing in Lean hashes anything: it is a label: what it is worth is what the hold of that sum in a sandbox is worth. -/
noncomputable def Try.pinned : Pinned := { name := "ytiibpnhjdfjdkaa", sum := "c9523b6792416438dc107359137fa40fcd442911e21da405c52f184aeb79ea01", checked := Try.checked }
namespace Rows
def none {H : Type} : Left H := { results := [], args := [] }

/-- 'laws.FnExactAreLike': WHATEVER THE INPUT: true; the input reads as it did. -/
def fnExactAreLikeSpec : ChangeSpec := { name := "fnExactAreLike", fn := fun _ => fun
  | [d1, d2] => { results := [.lit (.bool true)], args := [d1, d2] }
  | _ => none }
def fnExactAreLikeRow : OpenClaim := { program := "ytiibpnhjdfjdkaa", sum := "c9523b6792416438dc107359137fa40fcd442911e21da405c52f184aeb79ea01", func := "loop.example/g01210/laws.FnExactAreLike", spec := "fnExactAreLike", unfollowed := true, recurses := true, apart := false }
def FnExactAreLikeSaid : Prop := fnExactAreLikeRow.holds Try.pinned (OpenSpec.ofChange fnExactAreLikeSpec)

/-- ITS FALSE NEIGHBOUR: 'it returns false'. Refute it at one input. -/
def fnExactAreLikeWrong : ChangeSpec := { name := "fnExactAreLike", fn := fun _ => fun
  | [d1, d2] => { results := [.lit (.bool false)], args := [d1, d2] }
  | _ => none }
def FnExactAreLikeWrongFalsely : Prop := fnExactAreLikeRow.holds Try.pinned (OpenSpec.ofChange fnExactAreLikeWrong)

/-- 'laws.FnExactSameSums': WHATEVER THE INPUT: true; the input reads as it did. -/
def fnExactSameSumsSpec : ChangeSpec := { name := "fnExactSameSums", fn := fun _ => fun
  | [d1, d2] => { results := [.lit (.bool true)], args := [d1, d2] }
  | _ => none }
def fnExactSameSumsRow : OpenClaim := { program := "ytiibpnhjdfjdkaa", sum := "c9523b6792416438dc107359137fa40fcd442911e21da405c52f184aeb79ea01", func := "loop.example/g01210/laws.FnExactSameSums", spec := "fnExactSameSums", unfollowed := true, recurses := true, apart := false }
def FnExactSameSumsSaid : Prop := fnExactSameSumsRow.holds Try.pinned (OpenSpec.ofChange fnExactSameSumsSpec)

/-- ITS FALSE NEIGHBOUR: 'it returns false'. Refute it at one input. -/
def fnExactSameSumsWrong : ChangeSpec := { name := "fnExactSameSums", fn := fun _ => fun
  | [d1, d2] => { results := [.lit (.bool false)], args := [d1, d2] }
  | _ => none }
def FnExactSameSumsWrongFalsely : Prop := fnExactSameSumsRow.holds Try.pinned (OpenSpec.ofChange fnExactSameSumsWrong)

/-- 'laws.FnExactRollAt': WHATEVER THE INPUT: true; the input reads as it did. -/
def fnExactRollAtSpec : ChangeSpec := { name := "fnExactRollAt", fn := fun _ => fun
  | [d1, d2] => { results := [.lit (.bool true)], args := [d1, d2] }
  | _ => none }
def fnExactRollAtRow : OpenClaim := { program := "ytiibpnhjdfjdkaa", sum := "c9523b6792416438dc107359137fa40fcd442911e21da405c52f184aeb79ea01", func := "loop.example/g01210/laws.FnExactRollAt", spec := "fnExactRollAt", unfollowed := true, recurses := true, apart := false }
def FnExactRollAtSaid : Prop := fnExactRollAtRow.holds Try.pinned (OpenSpec.ofChange fnExactRollAtSpec)

/-- ITS FALSE NEIGHBOUR: 'it returns false'. Refute it at one input. -/
def fnExactRollAtWrong : ChangeSpec := { name := "fnExactRollAt", fn := fun _ => fun
  | [d1, d2] => { results := [.lit (.bool false)], args := [d1, d2] }
  | _ => none }
def FnExactRollAtWrongFalsely : Prop := fnExactRollAtRow.holds Try.pinned (OpenSpec.ofChange fnExactRollAtWrong)

/-- 'laws.FnExactIsRingRow': WHATEVER THE INPUT: true; the input reads as it did. -/
def fnExactIsRingRowSpec : ChangeSpec := { name := "fnExactIsRingRow", fn := fun _ => fun
  | [d] => { results := [.lit (.bool true)], args := [d] }
  | _ => none }
def fnExactIsRingRowRow : OpenClaim := { program := "ytiibpnhjdfjdkaa", sum := "c9523b6792416438dc107359137fa40fcd442911e21da405c52f184aeb79ea01", func := "loop.example/g01210/laws.FnExactIsRingRow", spec := "fnExactIsRingRow", unfollowed := true, recurses := true, apart := false }
def FnExactIsRingRowSaid : Prop := fnExactIsRingRowRow.holds Try.pinned (OpenSpec.ofChange fnExactIsRingRowSpec)

/-- ITS FALSE NEIGHBOUR: 'it returns false'. Refute it at one input. -/
def fnExactIsRingRowWrong : ChangeSpec := { name := "fnExactIsRingRow", fn := fun _ => fun
  | [d] => { results := [.lit (.bool false)], args := [d] }
  | _ => none }
def FnExactIsRingRowWrongFalsely : Prop := fnExactIsRingRowRow.holds Try.pinned (OpenSpec.ofChange fnExactIsRingRowWrong)

/-- 'laws.FnExactChanceOfSum': WHATEVER THE INPUT: true; the input reads as it did. -/
def fnExactChanceOfSumSpec : ChangeSpec := { name := "fnExactChanceOfSum", fn := fun _ => fun
  | [d1, d2] => { results := [.lit (.bool true)], args := [d1, d2] }
  | _ => none }
def fnExactChanceOfSumRow : OpenClaim := { program := "ytiibpnhjdfjdkaa", sum := "c9523b6792416438dc107359137fa40fcd442911e21da405c52f184aeb79ea01", func := "loop.example/g01210/laws.FnExactChanceOfSum", spec := "fnExactChanceOfSum", unfollowed := true, recurses := true, apart := false }
def FnExactChanceOfSumSaid : Prop := fnExactChanceOfSumRow.holds Try.pinned (OpenSpec.ofChange fnExactChanceOfSumSpec)

/-- ITS FALSE NEIGHBOUR: 'it returns false'. Refute it at one input. -/
def fnExactChanceOfSumWrong : ChangeSpec := { name := "fnExactChanceOfSum", fn := fun _ => fun
  | [d1, d2] => { results := [.lit (.bool false)], args := [d1, d2] }
  | _ => none }
def FnExactChanceOfSumWrongFalsely : Prop := fnExactChanceOfSumRow.holds Try.pinned (OpenSpec.ofChange fnExactChanceOfSumWrong)

/-- 'laws.FnExactOneLike': WHATEVER THE INPUT: true; the input reads as it did. -/
def fnExactOneLikeSpec : ChangeSpec := { name := "fnExactOneLike", fn := fun _ => fun
  | [d] => { results := [.lit (.bool true)], args := [d] }
  | _ => none }
def fnExactOneLikeRow : OpenClaim := { program := "ytiibpnhjdfjdkaa", sum := "c9523b6792416438dc107359137fa40fcd442911e21da405c52f184aeb79ea01", func := "loop.example/g01210/laws.FnExactOneLike", spec := "fnExactOneLike", unfollowed := true, recurses := true, apart := false }
def FnExactOneLikeSaid : Prop := fnExactOneLikeRow.holds Try.pinned (OpenSpec.ofChange fnExactOneLikeSpec)

/-- ITS FALSE NEIGHBOUR: 'it returns false'. Refute it at one input. -/
def fnExactOneLikeWrong : ChangeSpec := { name := "fnExactOneLike", fn := fun _ => fun
  | [d] => { results := [.lit (.bool false)], args := [d] }
  | _ => none }
def FnExactOneLikeWrongFalsely : Prop := fnExactOneLikeRow.holds Try.pinned (OpenSpec.ofChange fnExactOneLikeWrong)

/-- 'laws.FnExactChanceAtLeast': WHATEVER THE INPUT: true; the input reads as it did. -/
def fnExactChanceAtLeastSpec : ChangeSpec := { name := "fnExactChanceAtLeast", fn := fun _ => fun
  | [d1, d2] => { results := [.lit (.bool true)], args := [d1, d2] }
  | _ => none }
def fnExactChanceAtLeastRow : OpenClaim := { program := "ytiibpnhjdfjdkaa", sum := "c9523b6792416438dc107359137fa40fcd442911e21da405c52f184aeb79ea01", func := "loop.example/g01210/laws.FnExactChanceAtLeast", spec := "fnExactChanceAtLeast", unfollowed := true, recurses := true, apart := false }
def FnExactChanceAtLeastSaid : Prop := fnExactChanceAtLeastRow.holds Try.pinned (OpenSpec.ofChange fnExactChanceAtLeastSpec)

/-- ITS FALSE NEIGHBOUR: 'it returns false'. Refute it at one input. -/
def fnExactChanceAtLeastWrong : ChangeSpec := { name := "fnExactChanceAtLeast", fn := fun _ => fun
  | [d1, d2] => { results := [.lit (.bool false)], args := [d1, d2] }
  | _ => none }
def FnExactChanceAtLeastWrongFalsely : Prop := fnExactChanceAtLeastRow.holds Try.pinned (OpenSpec.ofChange fnExactChanceAtLeastWrong)

/-- 'laws.FnExactChanceLevel': WHATEVER THE INPUT: true; the input reads as it did. -/
def fnExactChanceLevelSpec : ChangeSpec := { name := "fnExactChanceLevel", fn := fun _ => fun
  | [d1, d2] => { results := [.lit (.bool true)], args := [d1, d2] }
  | _ => none }
def fnExactChanceLevelRow : OpenClaim := { program := "ytiibpnhjdfjdkaa", sum := "c9523b6792416438dc107359137fa40fcd442911e21da405c52f184aeb79ea01", func := "loop.example/g01210/laws.FnExactChanceLevel", spec := "fnExactChanceLevel", unfollowed := true, recurses := true, apart := false }
def FnExactChanceLevelSaid : Prop := fnExactChanceLevelRow.holds Try.pinned (OpenSpec.ofChange fnExactChanceLevelSpec)

/-- ITS FALSE NEIGHBOUR: 'it returns false'. Refute it at one input. -/
def fnExactChanceLevelWrong : ChangeSpec := { name := "fnExactChanceLevel", fn := fun _ => fun
  | [d1, d2] => { results := [.lit (.bool false)], args := [d1, d2] }
  | _ => none }
def FnExactChanceLevelWrongFalsely : Prop := fnExactChanceLevelRow.holds Try.pinned (OpenSpec.ofChange fnExactChanceLevelWrong)

/-- 'laws.FnExactChanceToBeat': WHATEVER THE INPUT: true; the input reads as it did. -/
def fnExactChanceToBeatSpec : ChangeSpec := { name := "fnExactChanceToBeat", fn := fun _ => fun
  | [d1, d2] => { results := [.lit (.bool true)], args := [d1, d2] }
  | _ => none }
def fnExactChanceToBeatRow : OpenClaim := { program := "ytiibpnhjdfjdkaa", sum := "c9523b6792416438dc107359137fa40fcd442911e21da405c52f184aeb79ea01", func := "loop.example/g01210/laws.FnExactChanceToBeat", spec := "fnExactChanceToBeat", unfollowed := true, recurses := true, apart := false }
def FnExactChanceToBeatSaid : Prop := fnExactChanceToBeatRow.holds Try.pinned (OpenSpec.ofChange fnExactChanceToBeatSpec)

/-- ITS FALSE NEIGHBOUR: 'it returns false'. Refute it at one input. -/
def fnExactChanceToBeatWrong : ChangeSpec := { name := "fnExactChanceToBeat", fn := fun _ => fun
  | [d1, d2] => { results := [.lit (.bool false)], args := [d1, d2] }
  | _ => none }
def FnExactChanceToBeatWrongFalsely : Prop := fnExactChanceToBeatRow.holds Try.pinned (OpenSpec.ofChange fnExactChanceToBeatWrong)

/-- 'laws.FnExactTopSums': WHATEVER THE INPUT: true; the input reads as it did. -/
def fnExactTopSumsSpec : ChangeSpec := { name := "fnExactTopSums", fn := fun _ => fun
  | [d] => { results := [.lit (.bool true)], args := [d] }
  | _ => none }
def fnExactTopSumsRow : OpenClaim := { program := "ytiibpnhjdfjdkaa", sum := "c9523b6792416438dc107359137fa40fcd442911e21da405c52f184aeb79ea01", func := "loop.example/g01210/laws.FnExactTopSums", spec := "fnExactTopSums", unfollowed := true, recurses := true, apart := false }
def FnExactTopSumsSaid : Prop := fnExactTopSumsRow.holds Try.pinned (OpenSpec.ofChange fnExactTopSumsSpec)

/-- ITS FALSE NEIGHBOUR: 'it returns false'. Refute it at one input. -/
def fnExactTopSumsWrong : ChangeSpec := { name := "fnExactTopSums", fn := fun _ => fun
  | [d] => { results := [.lit (.bool false)], args := [d] }
  | _ => none }
def FnExactTopSumsWrongFalsely : Prop := fnExactTopSumsRow.holds Try.pinned (OpenSpec.ofChange fnExactTopSumsWrong)

/-- 'laws.FnExactBeatenBy': WHATEVER THE INPUT: true; the input reads as it did. -/
def fnExactBeatenBySpec : ChangeSpec := { name := "fnExactBeatenBy", fn := fun _ => fun
  | [d] => { results := [.lit (.bool true)], args := [d] }
  | _ => none }
def fnExactBeatenByRow : OpenClaim := { program := "ytiibpnhjdfjdkaa", sum := "c9523b6792416438dc107359137fa40fcd442911e21da405c52f184aeb79ea01", func := "loop.example/g01210/laws.FnExactBeatenBy", spec := "fnExactBeatenBy", unfollowed := true, recurses := true, apart := false }
def FnExactBeatenBySaid : Prop := fnExactBeatenByRow.holds Try.pinned (OpenSpec.ofChange fnExactBeatenBySpec)

/-- ITS FALSE NEIGHBOUR: 'it returns false'. Refute it at one input. -/
def fnExactBeatenByWrong : ChangeSpec := { name := "fnExactBeatenBy", fn := fun _ => fun
  | [d] => { results := [.lit (.bool false)], args := [d] }
  | _ => none }
def FnExactBeatenByWrongFalsely : Prop := fnExactBeatenByRow.holds Try.pinned (OpenSpec.ofChange fnExactBeatenByWrong)

/-- 'laws.FnExactLevelPairs': WHATEVER THE INPUT: true; the input reads as it did. -/
def fnExactLevelPairsSpec : ChangeSpec := { name := "fnExactLevelPairs", fn := fun _ => fun
  | [d] => { results := [.lit (.bool true)], args := [d] }
  | _ => none }
def fnExactLevelPairsRow : OpenClaim := { program := "ytiibpnhjdfjdkaa", sum := "c9523b6792416438dc107359137fa40fcd442911e21da405c52f184aeb79ea01", func := "loop.example/g01210/laws.FnExactLevelPairs", spec := "fnExactLevelPairs", unfollowed := true, recurses := true, apart := false }
def FnExactLevelPairsSaid : Prop := fnExactLevelPairsRow.holds Try.pinned (OpenSpec.ofChange fnExactLevelPairsSpec)

/-- ITS FALSE NEIGHBOUR: 'it returns false'. Refute it at one input. -/
def fnExactLevelPairsWrong : ChangeSpec := { name := "fnExactLevelPairs", fn := fun _ => fun
  | [d] => { results := [.lit (.bool false)], args := [d] }
  | _ => none }
def FnExactLevelPairsWrongFalsely : Prop := fnExactLevelPairsRow.holds Try.pinned (OpenSpec.ofChange fnExactLevelPairsWrong)

/-- 'laws.FnExactBeatTable': WHATEVER THE INPUT: true; the input reads as it did. -/
def fnExactBeatTableSpec : ChangeSpec := { name := "fnExactBeatTable", fn := fun _ => fun
  | [d] => { results := [.lit (.bool true)], args := [d] }
  | _ => none }
def fnExactBeatTableRow : OpenClaim := { program := "ytiibpnhjdfjdkaa", sum := "c9523b6792416438dc107359137fa40fcd442911e21da405c52f184aeb79ea01", func := "loop.example/g01210/laws.FnExactBeatTable", spec := "fnExactBeatTable", unfollowed := true, recurses := true, apart := false }
def FnExactBeatTableSaid : Prop := fnExactBeatTableRow.holds Try.pinned (OpenSpec.ofChange fnExactBeatTableSpec)

/-- ITS FALSE NEIGHBOUR: 'it returns false'. Refute it at one input. -/
def fnExactBeatTableWrong : ChangeSpec := { name := "fnExactBeatTable", fn := fun _ => fun
  | [d] => { results := [.lit (.bool false)], args := [d] }
  | _ => none }
def FnExactBeatTableWrongFalsely : Prop := fnExactBeatTableRow.holds Try.pinned (OpenSpec.ofChange fnExactBeatTableWrong)

/- THE SECOND FORM. 'bulk': how many values and letters a reading holds, each counted each time it is reached (what is shared counts as often as it is met; a slice's spare places count too). A statement '..UptoSaid' is the law's where the arguments, and the package variables that the reading takes, are together of bulk at most 1048576: NARROWER than '..Said'. Prove '..Said' where nothing that the law and all that it calls make is longer than what came in: it says more and counts as full. Else prove '..UptoSaid'. A law counts once. -/
mutual
def uptoBulk {H : Type} : DataW H → Nat
  | .lit (.string bytes) => bytes.length + 1
  | .lit _ => 1
  | .nil => 1
  | .ptr d => uptoBulk d + 1
  | .slice elems spare => uptoBulkAll elems + uptoBulkAll spare + 1
  | .agg parts => uptoBulkAll parts + 1
  | .iface _ d => uptoBulk d + 1
  | .map entries => uptoBulkEntries entries + 1
  | .held _ => 1
def uptoBulkAll {H : Type} : List (DataW H) → Nat
  | [] => 0
  | d :: r => uptoBulk d + uptoBulkAll r
def uptoBulkEntries {H : Type} : List (Lit × DataW H) → Nat
  | [] => 0
  | x :: r => uptoBulkEntry x + uptoBulkEntries r
def uptoBulkEntry {H : Type} : Lit × DataW H → Nat
  | (.string bytes, d) => bytes.length + uptoBulk d + 1
  | (_, d) => uptoBulk d + 1
 end
def uptoSmall : (H : Type) → List (DataW H) → Bool := fun _ ds => decide (uptoBulkAll ds ≤ 1048576)
def OpenSpec.upto (s : _root_.Go.ChangeSpec) : _root_.Go.OpenSpec := { _root_.Go.OpenSpec.ofChange s with cond := some uptoSmall }

/-- 'laws.FnExactAreLike', WHERE WHAT IT READS IS OF BULK AT MOST 1048576: true; the input reads as it did. -/
def fnExactAreLikeUptoRow : OpenClaim := { program := "ytiibpnhjdfjdkaa", sum := "c9523b6792416438dc107359137fa40fcd442911e21da405c52f184aeb79ea01", func := "loop.example/g01210/laws.FnExactAreLike", spec := "fnExactAreLike", unfollowed := true, recurses := true, apart := false, narrowed := true }
def FnExactAreLikeUptoSaid : Prop := fnExactAreLikeUptoRow.holds Try.pinned (OpenSpec.upto fnExactAreLikeSpec)

/-- 'laws.FnExactSameSums', WHERE WHAT IT READS IS OF BULK AT MOST 1048576: true; the input reads as it did. -/
def fnExactSameSumsUptoRow : OpenClaim := { program := "ytiibpnhjdfjdkaa", sum := "c9523b6792416438dc107359137fa40fcd442911e21da405c52f184aeb79ea01", func := "loop.example/g01210/laws.FnExactSameSums", spec := "fnExactSameSums", unfollowed := true, recurses := true, apart := false, narrowed := true }
def FnExactSameSumsUptoSaid : Prop := fnExactSameSumsUptoRow.holds Try.pinned (OpenSpec.upto fnExactSameSumsSpec)

/-- 'laws.FnExactRollAt', WHERE WHAT IT READS IS OF BULK AT MOST 1048576: true; the input reads as it did. -/
def fnExactRollAtUptoRow : OpenClaim := { program := "ytiibpnhjdfjdkaa", sum := "c9523b6792416438dc107359137fa40fcd442911e21da405c52f184aeb79ea01", func := "loop.example/g01210/laws.FnExactRollAt", spec := "fnExactRollAt", unfollowed := true, recurses := true, apart := false, narrowed := true }
def FnExactRollAtUptoSaid : Prop := fnExactRollAtUptoRow.holds Try.pinned (OpenSpec.upto fnExactRollAtSpec)

/-- 'laws.FnExactIsRingRow', WHERE WHAT IT READS IS OF BULK AT MOST 1048576: true; the input reads as it did. -/
def fnExactIsRingRowUptoRow : OpenClaim := { program := "ytiibpnhjdfjdkaa", sum := "c9523b6792416438dc107359137fa40fcd442911e21da405c52f184aeb79ea01", func := "loop.example/g01210/laws.FnExactIsRingRow", spec := "fnExactIsRingRow", unfollowed := true, recurses := true, apart := false, narrowed := true }
def FnExactIsRingRowUptoSaid : Prop := fnExactIsRingRowUptoRow.holds Try.pinned (OpenSpec.upto fnExactIsRingRowSpec)

/-- 'laws.FnExactChanceOfSum', WHERE WHAT IT READS IS OF BULK AT MOST 1048576: true; the input reads as it did. -/
def fnExactChanceOfSumUptoRow : OpenClaim := { program := "ytiibpnhjdfjdkaa", sum := "c9523b6792416438dc107359137fa40fcd442911e21da405c52f184aeb79ea01", func := "loop.example/g01210/laws.FnExactChanceOfSum", spec := "fnExactChanceOfSum", unfollowed := true, recurses := true, apart := false, narrowed := true }
def FnExactChanceOfSumUptoSaid : Prop := fnExactChanceOfSumUptoRow.holds Try.pinned (OpenSpec.upto fnExactChanceOfSumSpec)

/-- 'laws.FnExactOneLike', WHERE WHAT IT READS IS OF BULK AT MOST 1048576: true; the input reads as it did. -/
def fnExactOneLikeUptoRow : OpenClaim := { program := "ytiibpnhjdfjdkaa", sum := "c9523b6792416438dc107359137fa40fcd442911e21da405c52f184aeb79ea01", func := "loop.example/g01210/laws.FnExactOneLike", spec := "fnExactOneLike", unfollowed := true, recurses := true, apart := false, narrowed := true }
def FnExactOneLikeUptoSaid : Prop := fnExactOneLikeUptoRow.holds Try.pinned (OpenSpec.upto fnExactOneLikeSpec)

/-- 'laws.FnExactChanceAtLeast', WHERE WHAT IT READS IS OF BULK AT MOST 1048576: true; the input reads as it did. -/
def fnExactChanceAtLeastUptoRow : OpenClaim := { program := "ytiibpnhjdfjdkaa", sum := "c9523b6792416438dc107359137fa40fcd442911e21da405c52f184aeb79ea01", func := "loop.example/g01210/laws.FnExactChanceAtLeast", spec := "fnExactChanceAtLeast", unfollowed := true, recurses := true, apart := false, narrowed := true }
def FnExactChanceAtLeastUptoSaid : Prop := fnExactChanceAtLeastUptoRow.holds Try.pinned (OpenSpec.upto fnExactChanceAtLeastSpec)

/-- 'laws.FnExactChanceLevel', WHERE WHAT IT READS IS OF BULK AT MOST 1048576: true; the input reads as it did. -/
def fnExactChanceLevelUptoRow : OpenClaim := { program := "ytiibpnhjdfjdkaa", sum := "c9523b6792416438dc107359137fa40fcd442911e21da405c52f184aeb79ea01", func := "loop.example/g01210/laws.FnExactChanceLevel", spec := "fnExactChanceLevel", unfollowed := true, recurses := true, apart := false, narrowed := true }
def FnExactChanceLevelUptoSaid : Prop := fnExactChanceLevelUptoRow.holds Try.pinned (OpenSpec.upto fnExactChanceLevelSpec)

/-- 'laws.FnExactChanceToBeat', WHERE WHAT IT READS IS OF BULK AT MOST 1048576: true; the input reads as it did. -/
def fnExactChanceToBeatUptoRow : OpenClaim := { program := "ytiibpnhjdfjdkaa", sum := "c9523b6792416438dc107359137fa40fcd442911e21da405c52f184aeb79ea01", func := "loop.example/g01210/laws.FnExactChanceToBeat", spec := "fnExactChanceToBeat", unfollowed := true, recurses := true, apart := false, narrowed := true }
def FnExactChanceToBeatUptoSaid : Prop := fnExactChanceToBeatUptoRow.holds Try.pinned (OpenSpec.upto fnExactChanceToBeatSpec)

/-- 'laws.FnExactTopSums', WHERE WHAT IT READS IS OF BULK AT MOST 1048576: true; the input reads as it did. -/
def fnExactTopSumsUptoRow : OpenClaim := { program := "ytiibpnhjdfjdkaa", sum := "c9523b6792416438dc107359137fa40fcd442911e21da405c52f184aeb79ea01", func := "loop.example/g01210/laws.FnExactTopSums", spec := "fnExactTopSums", unfollowed := true, recurses := true, apart := false, narrowed := true }
def FnExactTopSumsUptoSaid : Prop := fnExactTopSumsUptoRow.holds Try.pinned (OpenSpec.upto fnExactTopSumsSpec)

/-- 'laws.FnExactBeatenBy', WHERE WHAT IT READS IS OF BULK AT MOST 1048576: true; the input reads as it did. -/
def fnExactBeatenByUptoRow : OpenClaim := { program := "ytiibpnhjdfjdkaa", sum := "c9523b6792416438dc107359137fa40fcd442911e21da405c52f184aeb79ea01", func := "loop.example/g01210/laws.FnExactBeatenBy", spec := "fnExactBeatenBy", unfollowed := true, recurses := true, apart := false, narrowed := true }
def FnExactBeatenByUptoSaid : Prop := fnExactBeatenByUptoRow.holds Try.pinned (OpenSpec.upto fnExactBeatenBySpec)

/-- 'laws.FnExactLevelPairs', WHERE WHAT IT READS IS OF BULK AT MOST 1048576: true; the input reads as it did. -/
def fnExactLevelPairsUptoRow : OpenClaim := { program := "ytiibpnhjdfjdkaa", sum := "c9523b6792416438dc107359137fa40fcd442911e21da405c52f184aeb79ea01", func := "loop.example/g01210/laws.FnExactLevelPairs", spec := "fnExactLevelPairs", unfollowed := true, recurses := true, apart := false, narrowed := true }
def FnExactLevelPairsUptoSaid : Prop := fnExactLevelPairsUptoRow.holds Try.pinned (OpenSpec.upto fnExactLevelPairsSpec)

/-- 'laws.FnExactBeatTable', WHERE WHAT IT READS IS OF BULK AT MOST 1048576: true; the input reads as it did. -/
def fnExactBeatTableUptoRow : OpenClaim := { program := "ytiibpnhjdfjdkaa", sum := "c9523b6792416438dc107359137fa40fcd442911e21da405c52f184aeb79ea01", func := "loop.example/g01210/laws.FnExactBeatTable", spec := "fnExactBeatTable", unfollowed := true, recurses := true, apart := false, narrowed := true }
def FnExactBeatTableUptoSaid : Prop := fnExactBeatTableUptoRow.holds Try.pinned (OpenSpec.upto fnExactBeatTableSpec)

end Rows
end Go.Proofs.Ytiibpnhjdfjdkaa
