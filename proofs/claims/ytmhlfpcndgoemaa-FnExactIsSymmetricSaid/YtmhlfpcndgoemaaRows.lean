/-
  No cell of these rows narrows 'for every input' (looked for: loops, veiled, ifaces, maps, wideKeys, modest, calm, conditions, laid).
  DERIVED. THE GIVEN ROWS OF THIS SEAT. 35 by the template 'for every input the law returns true; each argument reads behind the call as it read before'; 0 by the template 'total and deterministic' (their statements: YtmhlfpcndgoemaaTotals.lean).
  GIVEN WITH THE SEED: the statements are not yours to turn. If you find one false, say at which input.
  Laid BY PROGRAM, IN A SANDBOX (cutbox-rows.mjs): the forced cells as the released guide's own fill.sh prints them over the translation 9e0d554120eb79ae… (all of the seat's roots in one cut). By AI agents, Wed Nov 11 2026. No macro, syntax, notation, axiom, sorry.
-/
import Derived.Test.YtmhlfpcndgoemaaChecked
import GoSem.Claim
import GoSem.ClaimJoined
import GoSem.ClaimMapViews
import Derived.JoinedTies
import Derived.KernelRfl
namespace Go.Proofs.Ytmhlfpcndgoemaa
/- THE CELL 'sum', in the pinned program and in every row, IS THE sha256 OF THE DUMP (.gsa) THAT YtmhlfpcndgoemaaProg.lean LOADS. Nothing in Lean hashes anything: it is a label: what it is worth is what the hold of that sum in a sandbox is worth. -/
noncomputable def Try.pinned : Pinned := { name := "ytmhlfpcndgoemaa", sum := "9e0d554120eb79ae5eb28598b9799cdcc59dde8d879ba0ae4035ca6ee20edbb6", checked := Try.checked }
namespace Rows
def none {H : Type} : Left H := { results := [], args := [] }

/-- 'laws.FnExactIsDie': WHATEVER THE INPUT: true; the input reads as it did. -/
def fnExactIsDieSpec : ChangeSpec := { name := "fnExactIsDie", fn := fun _ => fun
  | [d] => { results := [.lit (.bool true)], args := [d] }
  | _ => none }
def fnExactIsDieRow : OpenClaim := { program := "ytmhlfpcndgoemaa", sum := "9e0d554120eb79ae5eb28598b9799cdcc59dde8d879ba0ae4035ca6ee20edbb6", func := "loop.example/g01210/laws.FnExactIsDie", spec := "fnExactIsDie", unfollowed := true, recurses := true, apart := false }
def FnExactIsDieSaid : Prop := fnExactIsDieRow.holds Try.pinned (OpenSpec.ofChange fnExactIsDieSpec)

/-- ITS FALSE NEIGHBOUR: 'it returns false'. Refute it at one input. -/
def fnExactIsDieWrong : ChangeSpec := { name := "fnExactIsDie", fn := fun _ => fun
  | [d] => { results := [.lit (.bool false)], args := [d] }
  | _ => none }
def FnExactIsDieWrongFalsely : Prop := fnExactIsDieRow.holds Try.pinned (OpenSpec.ofChange fnExactIsDieWrong)

/-- 'laws.FnExactDoesCover': WHATEVER THE INPUT: true; the input reads as it did. -/
def fnExactDoesCoverSpec : ChangeSpec := { name := "fnExactDoesCover", fn := fun _ => fun
  | [d1, d2] => { results := [.lit (.bool true)], args := [d1, d2] }
  | _ => none }
def fnExactDoesCoverRow : OpenClaim := { program := "ytmhlfpcndgoemaa", sum := "9e0d554120eb79ae5eb28598b9799cdcc59dde8d879ba0ae4035ca6ee20edbb6", func := "loop.example/g01210/laws.FnExactDoesCover", spec := "fnExactDoesCover", unfollowed := true, recurses := true, apart := false }
def FnExactDoesCoverSaid : Prop := fnExactDoesCoverRow.holds Try.pinned (OpenSpec.ofChange fnExactDoesCoverSpec)

/-- ITS FALSE NEIGHBOUR: 'it returns false'. Refute it at one input. -/
def fnExactDoesCoverWrong : ChangeSpec := { name := "fnExactDoesCover", fn := fun _ => fun
  | [d1, d2] => { results := [.lit (.bool false)], args := [d1, d2] }
  | _ => none }
def FnExactDoesCoverWrongFalsely : Prop := fnExactDoesCoverRow.holds Try.pinned (OpenSpec.ofChange fnExactDoesCoverWrong)

/-- 'laws.FnExactCountFaces': WHATEVER THE INPUT: true; the input reads as it did. -/
def fnExactCountFacesSpec : ChangeSpec := { name := "fnExactCountFaces", fn := fun _ => fun
  | [d] => { results := [.lit (.bool true)], args := [d] }
  | _ => none }
def fnExactCountFacesRow : OpenClaim := { program := "ytmhlfpcndgoemaa", sum := "9e0d554120eb79ae5eb28598b9799cdcc59dde8d879ba0ae4035ca6ee20edbb6", func := "loop.example/g01210/laws.FnExactCountFaces", spec := "fnExactCountFaces", unfollowed := true, recurses := true, apart := false }
def FnExactCountFacesSaid : Prop := fnExactCountFacesRow.holds Try.pinned (OpenSpec.ofChange fnExactCountFacesSpec)

/-- ITS FALSE NEIGHBOUR: 'it returns false'. Refute it at one input. -/
def fnExactCountFacesWrong : ChangeSpec := { name := "fnExactCountFaces", fn := fun _ => fun
  | [d] => { results := [.lit (.bool false)], args := [d] }
  | _ => none }
def FnExactCountFacesWrongFalsely : Prop := fnExactCountFacesRow.holds Try.pinned (OpenSpec.ofChange fnExactCountFacesWrong)

/-- 'laws.FnExactOppositeDie': WHATEVER THE INPUT: true; the input reads as it did. -/
def fnExactOppositeDieSpec : ChangeSpec := { name := "fnExactOppositeDie", fn := fun _ => fun
  | [d] => { results := [.lit (.bool true)], args := [d] }
  | _ => none }
def fnExactOppositeDieRow : OpenClaim := { program := "ytmhlfpcndgoemaa", sum := "9e0d554120eb79ae5eb28598b9799cdcc59dde8d879ba0ae4035ca6ee20edbb6", func := "loop.example/g01210/laws.FnExactOppositeDie", spec := "fnExactOppositeDie", unfollowed := true, recurses := true, apart := false }
def FnExactOppositeDieSaid : Prop := fnExactOppositeDieRow.holds Try.pinned (OpenSpec.ofChange fnExactOppositeDieSpec)

/-- ITS FALSE NEIGHBOUR: 'it returns false'. Refute it at one input. -/
def fnExactOppositeDieWrong : ChangeSpec := { name := "fnExactOppositeDie", fn := fun _ => fun
  | [d] => { results := [.lit (.bool false)], args := [d] }
  | _ => none }
def FnExactOppositeDieWrongFalsely : Prop := fnExactOppositeDieRow.holds Try.pinned (OpenSpec.ofChange fnExactOppositeDieWrong)

/-- 'laws.FnExactShiftDie': WHATEVER THE INPUT: true; the input reads as it did. -/
def fnExactShiftDieSpec : ChangeSpec := { name := "fnExactShiftDie", fn := fun _ => fun
  | [d1, d2] => { results := [.lit (.bool true)], args := [d1, d2] }
  | _ => none }
def fnExactShiftDieRow : OpenClaim := { program := "ytmhlfpcndgoemaa", sum := "9e0d554120eb79ae5eb28598b9799cdcc59dde8d879ba0ae4035ca6ee20edbb6", func := "loop.example/g01210/laws.FnExactShiftDie", spec := "fnExactShiftDie", unfollowed := true, recurses := true, apart := false }
def FnExactShiftDieSaid : Prop := fnExactShiftDieRow.holds Try.pinned (OpenSpec.ofChange fnExactShiftDieSpec)

/-- ITS FALSE NEIGHBOUR: 'it returns false'. Refute it at one input. -/
def fnExactShiftDieWrong : ChangeSpec := { name := "fnExactShiftDie", fn := fun _ => fun
  | [d1, d2] => { results := [.lit (.bool false)], args := [d1, d2] }
  | _ => none }
def FnExactShiftDieWrongFalsely : Prop := fnExactShiftDieRow.holds Try.pinned (OpenSpec.ofChange fnExactShiftDieWrong)

/-- 'laws.FnExactBaseOf': WHATEVER THE INPUT: true; the input reads as it did. -/
def fnExactBaseOfSpec : ChangeSpec := { name := "fnExactBaseOf", fn := fun _ => fun
  | [d] => { results := [.lit (.bool true)], args := [d] }
  | _ => none }
def fnExactBaseOfRow : OpenClaim := { program := "ytmhlfpcndgoemaa", sum := "9e0d554120eb79ae5eb28598b9799cdcc59dde8d879ba0ae4035ca6ee20edbb6", func := "loop.example/g01210/laws.FnExactBaseOf", spec := "fnExactBaseOf", unfollowed := true, recurses := true, apart := false }
def FnExactBaseOfSaid : Prop := fnExactBaseOfRow.holds Try.pinned (OpenSpec.ofChange fnExactBaseOfSpec)

/-- ITS FALSE NEIGHBOUR: 'it returns false'. Refute it at one input. -/
def fnExactBaseOfWrong : ChangeSpec := { name := "fnExactBaseOf", fn := fun _ => fun
  | [d] => { results := [.lit (.bool false)], args := [d] }
  | _ => none }
def FnExactBaseOfWrongFalsely : Prop := fnExactBaseOfRow.holds Try.pinned (OpenSpec.ofChange fnExactBaseOfWrong)

/-- 'laws.FnExactIsPool': WHATEVER THE INPUT: true; the input reads as it did. -/
def fnExactIsPoolSpec : ChangeSpec := { name := "fnExactIsPool", fn := fun _ => fun
  | [d] => { results := [.lit (.bool true)], args := [d] }
  | _ => none }
def fnExactIsPoolRow : OpenClaim := { program := "ytmhlfpcndgoemaa", sum := "9e0d554120eb79ae5eb28598b9799cdcc59dde8d879ba0ae4035ca6ee20edbb6", func := "loop.example/g01210/laws.FnExactIsPool", spec := "fnExactIsPool", unfollowed := true, recurses := true, apart := false }
def FnExactIsPoolSaid : Prop := fnExactIsPoolRow.holds Try.pinned (OpenSpec.ofChange fnExactIsPoolSpec)

/-- ITS FALSE NEIGHBOUR: 'it returns false'. Refute it at one input. -/
def fnExactIsPoolWrong : ChangeSpec := { name := "fnExactIsPool", fn := fun _ => fun
  | [d] => { results := [.lit (.bool false)], args := [d] }
  | _ => none }
def FnExactIsPoolWrongFalsely : Prop := fnExactIsPoolRow.holds Try.pinned (OpenSpec.ofChange fnExactIsPoolWrong)

/-- 'laws.FnExactIsPair': WHATEVER THE INPUT: true; the input reads as it did. -/
def fnExactIsPairSpec : ChangeSpec := { name := "fnExactIsPair", fn := fun _ => fun
  | [d] => { results := [.lit (.bool true)], args := [d] }
  | _ => none }
def fnExactIsPairRow : OpenClaim := { program := "ytmhlfpcndgoemaa", sum := "9e0d554120eb79ae5eb28598b9799cdcc59dde8d879ba0ae4035ca6ee20edbb6", func := "loop.example/g01210/laws.FnExactIsPair", spec := "fnExactIsPair", unfollowed := true, recurses := true, apart := false }
def FnExactIsPairSaid : Prop := fnExactIsPairRow.holds Try.pinned (OpenSpec.ofChange fnExactIsPairSpec)

/-- ITS FALSE NEIGHBOUR: 'it returns false'. Refute it at one input. -/
def fnExactIsPairWrong : ChangeSpec := { name := "fnExactIsPair", fn := fun _ => fun
  | [d] => { results := [.lit (.bool false)], args := [d] }
  | _ => none }
def FnExactIsPairWrongFalsely : Prop := fnExactIsPairRow.holds Try.pinned (OpenSpec.ofChange fnExactIsPairWrong)

/-- 'laws.FnExactLessDie': WHATEVER THE INPUT: true; the input reads as it did. -/
def fnExactLessDieSpec : ChangeSpec := { name := "fnExactLessDie", fn := fun _ => fun
  | [d1, d2] => { results := [.lit (.bool true)], args := [d1, d2] }
  | _ => none }
def fnExactLessDieRow : OpenClaim := { program := "ytmhlfpcndgoemaa", sum := "9e0d554120eb79ae5eb28598b9799cdcc59dde8d879ba0ae4035ca6ee20edbb6", func := "loop.example/g01210/laws.FnExactLessDie", spec := "fnExactLessDie", unfollowed := true, recurses := true, apart := false }
def FnExactLessDieSaid : Prop := fnExactLessDieRow.holds Try.pinned (OpenSpec.ofChange fnExactLessDieSpec)

/-- ITS FALSE NEIGHBOUR: 'it returns false'. Refute it at one input. -/
def fnExactLessDieWrong : ChangeSpec := { name := "fnExactLessDie", fn := fun _ => fun
  | [d1, d2] => { results := [.lit (.bool false)], args := [d1, d2] }
  | _ => none }
def FnExactLessDieWrongFalsely : Prop := fnExactLessDieRow.holds Try.pinned (OpenSpec.ofChange fnExactLessDieWrong)

/-- 'laws.FnExactCompareDice': WHATEVER THE INPUT: true; the input reads as it did. -/
def fnExactCompareDiceSpec : ChangeSpec := { name := "fnExactCompareDice", fn := fun _ => fun
  | [d1, d2] => { results := [.lit (.bool true)], args := [d1, d2] }
  | _ => none }
def fnExactCompareDiceRow : OpenClaim := { program := "ytmhlfpcndgoemaa", sum := "9e0d554120eb79ae5eb28598b9799cdcc59dde8d879ba0ae4035ca6ee20edbb6", func := "loop.example/g01210/laws.FnExactCompareDice", spec := "fnExactCompareDice", unfollowed := true, recurses := true, apart := false }
def FnExactCompareDiceSaid : Prop := fnExactCompareDiceRow.holds Try.pinned (OpenSpec.ofChange fnExactCompareDiceSpec)

/-- ITS FALSE NEIGHBOUR: 'it returns false'. Refute it at one input. -/
def fnExactCompareDiceWrong : ChangeSpec := { name := "fnExactCompareDice", fn := fun _ => fun
  | [d1, d2] => { results := [.lit (.bool false)], args := [d1, d2] }
  | _ => none }
def FnExactCompareDiceWrongFalsely : Prop := fnExactCompareDiceRow.holds Try.pinned (OpenSpec.ofChange fnExactCompareDiceWrong)

/-- 'laws.FnExactDoesBeat': WHATEVER THE INPUT: true; the input reads as it did. -/
def fnExactDoesBeatSpec : ChangeSpec := { name := "fnExactDoesBeat", fn := fun _ => fun
  | [d1, d2] => { results := [.lit (.bool true)], args := [d1, d2] }
  | _ => none }
def fnExactDoesBeatRow : OpenClaim := { program := "ytmhlfpcndgoemaa", sum := "9e0d554120eb79ae5eb28598b9799cdcc59dde8d879ba0ae4035ca6ee20edbb6", func := "loop.example/g01210/laws.FnExactDoesBeat", spec := "fnExactDoesBeat", unfollowed := true, recurses := true, apart := false }
def FnExactDoesBeatSaid : Prop := fnExactDoesBeatRow.holds Try.pinned (OpenSpec.ofChange fnExactDoesBeatSpec)

/-- ITS FALSE NEIGHBOUR: 'it returns false'. Refute it at one input. -/
def fnExactDoesBeatWrong : ChangeSpec := { name := "fnExactDoesBeat", fn := fun _ => fun
  | [d1, d2] => { results := [.lit (.bool false)], args := [d1, d2] }
  | _ => none }
def FnExactDoesBeatWrongFalsely : Prop := fnExactDoesBeatRow.holds Try.pinned (OpenSpec.ofChange fnExactDoesBeatWrong)

/-- 'laws.FnExactBoundsOf': WHATEVER THE INPUT: true; the input reads as it did. -/
def fnExactBoundsOfSpec : ChangeSpec := { name := "fnExactBoundsOf", fn := fun _ => fun
  | [d] => { results := [.lit (.bool true)], args := [d] }
  | _ => none }
def fnExactBoundsOfRow : OpenClaim := { program := "ytmhlfpcndgoemaa", sum := "9e0d554120eb79ae5eb28598b9799cdcc59dde8d879ba0ae4035ca6ee20edbb6", func := "loop.example/g01210/laws.FnExactBoundsOf", spec := "fnExactBoundsOf", unfollowed := true, recurses := true, apart := false }
def FnExactBoundsOfSaid : Prop := fnExactBoundsOfRow.holds Try.pinned (OpenSpec.ofChange fnExactBoundsOfSpec)

/-- ITS FALSE NEIGHBOUR: 'it returns false'. Refute it at one input. -/
def fnExactBoundsOfWrong : ChangeSpec := { name := "fnExactBoundsOf", fn := fun _ => fun
  | [d] => { results := [.lit (.bool false)], args := [d] }
  | _ => none }
def FnExactBoundsOfWrongFalsely : Prop := fnExactBoundsOfRow.holds Try.pinned (OpenSpec.ofChange fnExactBoundsOfWrong)

/-- 'laws.FnExactLeastShift': WHATEVER THE INPUT: true; the input reads as it did. -/
def fnExactLeastShiftSpec : ChangeSpec := { name := "fnExactLeastShift", fn := fun _ => fun
  | [d1, d2] => { results := [.lit (.bool true)], args := [d1, d2] }
  | _ => none }
def fnExactLeastShiftRow : OpenClaim := { program := "ytmhlfpcndgoemaa", sum := "9e0d554120eb79ae5eb28598b9799cdcc59dde8d879ba0ae4035ca6ee20edbb6", func := "loop.example/g01210/laws.FnExactLeastShift", spec := "fnExactLeastShift", unfollowed := true, recurses := true, apart := false }
def FnExactLeastShiftSaid : Prop := fnExactLeastShiftRow.holds Try.pinned (OpenSpec.ofChange fnExactLeastShiftSpec)

/-- ITS FALSE NEIGHBOUR: 'it returns false'. Refute it at one input. -/
def fnExactLeastShiftWrong : ChangeSpec := { name := "fnExactLeastShift", fn := fun _ => fun
  | [d1, d2] => { results := [.lit (.bool false)], args := [d1, d2] }
  | _ => none }
def FnExactLeastShiftWrongFalsely : Prop := fnExactLeastShiftRow.holds Try.pinned (OpenSpec.ofChange fnExactLeastShiftWrong)

/-- 'laws.FnExactPairOf': WHATEVER THE INPUT: true; the input reads as it did. -/
def fnExactPairOfSpec : ChangeSpec := { name := "fnExactPairOf", fn := fun _ => fun
  | [d1, d2] => { results := [.lit (.bool true)], args := [d1, d2] }
  | _ => none }
def fnExactPairOfRow : OpenClaim := { program := "ytmhlfpcndgoemaa", sum := "9e0d554120eb79ae5eb28598b9799cdcc59dde8d879ba0ae4035ca6ee20edbb6", func := "loop.example/g01210/laws.FnExactPairOf", spec := "fnExactPairOf", unfollowed := true, recurses := true, apart := false }
def FnExactPairOfSaid : Prop := fnExactPairOfRow.holds Try.pinned (OpenSpec.ofChange fnExactPairOfSpec)

/-- ITS FALSE NEIGHBOUR: 'it returns false'. Refute it at one input. -/
def fnExactPairOfWrong : ChangeSpec := { name := "fnExactPairOf", fn := fun _ => fun
  | [d1, d2] => { results := [.lit (.bool false)], args := [d1, d2] }
  | _ => none }
def FnExactPairOfWrongFalsely : Prop := fnExactPairOfRow.holds Try.pinned (OpenSpec.ofChange fnExactPairOfWrong)

/-- 'laws.FnExactSumTable': WHATEVER THE INPUT: true; the input reads as it did. -/
def fnExactSumTableSpec : ChangeSpec := { name := "fnExactSumTable", fn := fun _ => fun
  | [d] => { results := [.lit (.bool true)], args := [d] }
  | _ => none }
def fnExactSumTableRow : OpenClaim := { program := "ytmhlfpcndgoemaa", sum := "9e0d554120eb79ae5eb28598b9799cdcc59dde8d879ba0ae4035ca6ee20edbb6", func := "loop.example/g01210/laws.FnExactSumTable", spec := "fnExactSumTable", unfollowed := true, recurses := true, apart := false }
def FnExactSumTableSaid : Prop := fnExactSumTableRow.holds Try.pinned (OpenSpec.ofChange fnExactSumTableSpec)

/-- ITS FALSE NEIGHBOUR: 'it returns false'. Refute it at one input. -/
def fnExactSumTableWrong : ChangeSpec := { name := "fnExactSumTable", fn := fun _ => fun
  | [d] => { results := [.lit (.bool false)], args := [d] }
  | _ => none }
def FnExactSumTableWrongFalsely : Prop := fnExactSumTableRow.holds Try.pinned (OpenSpec.ofChange fnExactSumTableWrong)

/-- 'laws.FnExactAreLike': WHATEVER THE INPUT: true; the input reads as it did. -/
def fnExactAreLikeSpec : ChangeSpec := { name := "fnExactAreLike", fn := fun _ => fun
  | [d1, d2] => { results := [.lit (.bool true)], args := [d1, d2] }
  | _ => none }
def fnExactAreLikeRow : OpenClaim := { program := "ytmhlfpcndgoemaa", sum := "9e0d554120eb79ae5eb28598b9799cdcc59dde8d879ba0ae4035ca6ee20edbb6", func := "loop.example/g01210/laws.FnExactAreLike", spec := "fnExactAreLike", unfollowed := true, recurses := true, apart := false }
def FnExactAreLikeSaid : Prop := fnExactAreLikeRow.holds Try.pinned (OpenSpec.ofChange fnExactAreLikeSpec)

/-- ITS FALSE NEIGHBOUR: 'it returns false'. Refute it at one input. -/
def fnExactAreLikeWrong : ChangeSpec := { name := "fnExactAreLike", fn := fun _ => fun
  | [d1, d2] => { results := [.lit (.bool false)], args := [d1, d2] }
  | _ => none }
def FnExactAreLikeWrongFalsely : Prop := fnExactAreLikeRow.holds Try.pinned (OpenSpec.ofChange fnExactAreLikeWrong)

/-- 'laws.FnExactMeanOf': WHATEVER THE INPUT: true; the input reads as it did. -/
def fnExactMeanOfSpec : ChangeSpec := { name := "fnExactMeanOf", fn := fun _ => fun
  | [d] => { results := [.lit (.bool true)], args := [d] }
  | _ => none }
def fnExactMeanOfRow : OpenClaim := { program := "ytmhlfpcndgoemaa", sum := "9e0d554120eb79ae5eb28598b9799cdcc59dde8d879ba0ae4035ca6ee20edbb6", func := "loop.example/g01210/laws.FnExactMeanOf", spec := "fnExactMeanOf", unfollowed := true, recurses := true, apart := false }
def FnExactMeanOfSaid : Prop := fnExactMeanOfRow.holds Try.pinned (OpenSpec.ofChange fnExactMeanOfSpec)

/-- ITS FALSE NEIGHBOUR: 'it returns false'. Refute it at one input. -/
def fnExactMeanOfWrong : ChangeSpec := { name := "fnExactMeanOf", fn := fun _ => fun
  | [d] => { results := [.lit (.bool false)], args := [d] }
  | _ => none }
def FnExactMeanOfWrongFalsely : Prop := fnExactMeanOfRow.holds Try.pinned (OpenSpec.ofChange fnExactMeanOfWrong)

/-- 'laws.FnExactSpreadOf': WHATEVER THE INPUT: true; the input reads as it did. -/
def fnExactSpreadOfSpec : ChangeSpec := { name := "fnExactSpreadOf", fn := fun _ => fun
  | [d] => { results := [.lit (.bool true)], args := [d] }
  | _ => none }
def fnExactSpreadOfRow : OpenClaim := { program := "ytmhlfpcndgoemaa", sum := "9e0d554120eb79ae5eb28598b9799cdcc59dde8d879ba0ae4035ca6ee20edbb6", func := "loop.example/g01210/laws.FnExactSpreadOf", spec := "fnExactSpreadOf", unfollowed := true, recurses := true, apart := false }
def FnExactSpreadOfSaid : Prop := fnExactSpreadOfRow.holds Try.pinned (OpenSpec.ofChange fnExactSpreadOfSpec)

/-- ITS FALSE NEIGHBOUR: 'it returns false'. Refute it at one input. -/
def fnExactSpreadOfWrong : ChangeSpec := { name := "fnExactSpreadOf", fn := fun _ => fun
  | [d] => { results := [.lit (.bool false)], args := [d] }
  | _ => none }
def FnExactSpreadOfWrongFalsely : Prop := fnExactSpreadOfRow.holds Try.pinned (OpenSpec.ofChange fnExactSpreadOfWrong)

/-- 'laws.FnExactShapeOf': WHATEVER THE INPUT: true; the input reads as it did. -/
def fnExactShapeOfSpec : ChangeSpec := { name := "fnExactShapeOf", fn := fun _ => fun
  | [d] => { results := [.lit (.bool true)], args := [d] }
  | _ => none }
def fnExactShapeOfRow : OpenClaim := { program := "ytmhlfpcndgoemaa", sum := "9e0d554120eb79ae5eb28598b9799cdcc59dde8d879ba0ae4035ca6ee20edbb6", func := "loop.example/g01210/laws.FnExactShapeOf", spec := "fnExactShapeOf", unfollowed := true, recurses := true, apart := false }
def FnExactShapeOfSaid : Prop := fnExactShapeOfRow.holds Try.pinned (OpenSpec.ofChange fnExactShapeOfSpec)

/-- ITS FALSE NEIGHBOUR: 'it returns false'. Refute it at one input. -/
def fnExactShapeOfWrong : ChangeSpec := { name := "fnExactShapeOf", fn := fun _ => fun
  | [d] => { results := [.lit (.bool false)], args := [d] }
  | _ => none }
def FnExactShapeOfWrongFalsely : Prop := fnExactShapeOfRow.holds Try.pinned (OpenSpec.ofChange fnExactShapeOfWrong)

/-- 'laws.FnExactBestAgainst': WHATEVER THE INPUT: true; the input reads as it did. -/
def fnExactBestAgainstSpec : ChangeSpec := { name := "fnExactBestAgainst", fn := fun _ => fun
  | [d1, d2] => { results := [.lit (.bool true)], args := [d1, d2] }
  | _ => none }
def fnExactBestAgainstRow : OpenClaim := { program := "ytmhlfpcndgoemaa", sum := "9e0d554120eb79ae5eb28598b9799cdcc59dde8d879ba0ae4035ca6ee20edbb6", func := "loop.example/g01210/laws.FnExactBestAgainst", spec := "fnExactBestAgainst", unfollowed := true, recurses := true, apart := false }
def FnExactBestAgainstSaid : Prop := fnExactBestAgainstRow.holds Try.pinned (OpenSpec.ofChange fnExactBestAgainstSpec)

/-- ITS FALSE NEIGHBOUR: 'it returns false'. Refute it at one input. -/
def fnExactBestAgainstWrong : ChangeSpec := { name := "fnExactBestAgainst", fn := fun _ => fun
  | [d1, d2] => { results := [.lit (.bool false)], args := [d1, d2] }
  | _ => none }
def FnExactBestAgainstWrongFalsely : Prop := fnExactBestAgainstRow.holds Try.pinned (OpenSpec.ofChange fnExactBestAgainstWrong)

/-- 'laws.FnExactSameSums': WHATEVER THE INPUT: true; the input reads as it did. -/
def fnExactSameSumsSpec : ChangeSpec := { name := "fnExactSameSums", fn := fun _ => fun
  | [d1, d2] => { results := [.lit (.bool true)], args := [d1, d2] }
  | _ => none }
def fnExactSameSumsRow : OpenClaim := { program := "ytmhlfpcndgoemaa", sum := "9e0d554120eb79ae5eb28598b9799cdcc59dde8d879ba0ae4035ca6ee20edbb6", func := "loop.example/g01210/laws.FnExactSameSums", spec := "fnExactSameSums", unfollowed := true, recurses := true, apart := false }
def FnExactSameSumsSaid : Prop := fnExactSameSumsRow.holds Try.pinned (OpenSpec.ofChange fnExactSameSumsSpec)

/-- ITS FALSE NEIGHBOUR: 'it returns false'. Refute it at one input. -/
def fnExactSameSumsWrong : ChangeSpec := { name := "fnExactSameSums", fn := fun _ => fun
  | [d1, d2] => { results := [.lit (.bool false)], args := [d1, d2] }
  | _ => none }
def FnExactSameSumsWrongFalsely : Prop := fnExactSameSumsRow.holds Try.pinned (OpenSpec.ofChange fnExactSameSumsWrong)

/-- 'laws.FnExactMirrorPair': WHATEVER THE INPUT: true; the input reads as it did. -/
def fnExactMirrorPairSpec : ChangeSpec := { name := "fnExactMirrorPair", fn := fun _ => fun
  | [d] => { results := [.lit (.bool true)], args := [d] }
  | _ => none }
def fnExactMirrorPairRow : OpenClaim := { program := "ytmhlfpcndgoemaa", sum := "9e0d554120eb79ae5eb28598b9799cdcc59dde8d879ba0ae4035ca6ee20edbb6", func := "loop.example/g01210/laws.FnExactMirrorPair", spec := "fnExactMirrorPair", unfollowed := true, recurses := true, apart := false }
def FnExactMirrorPairSaid : Prop := fnExactMirrorPairRow.holds Try.pinned (OpenSpec.ofChange fnExactMirrorPairSpec)

/-- ITS FALSE NEIGHBOUR: 'it returns false'. Refute it at one input. -/
def fnExactMirrorPairWrong : ChangeSpec := { name := "fnExactMirrorPair", fn := fun _ => fun
  | [d] => { results := [.lit (.bool false)], args := [d] }
  | _ => none }
def FnExactMirrorPairWrongFalsely : Prop := fnExactMirrorPairRow.holds Try.pinned (OpenSpec.ofChange fnExactMirrorPairWrong)

/-- 'laws.FnExactIsSymmetric': WHATEVER THE INPUT: true; the input reads as it did. -/
def fnExactIsSymmetricSpec : ChangeSpec := { name := "fnExactIsSymmetric", fn := fun _ => fun
  | [d] => { results := [.lit (.bool true)], args := [d] }
  | _ => none }
def fnExactIsSymmetricRow : OpenClaim := { program := "ytmhlfpcndgoemaa", sum := "9e0d554120eb79ae5eb28598b9799cdcc59dde8d879ba0ae4035ca6ee20edbb6", func := "loop.example/g01210/laws.FnExactIsSymmetric", spec := "fnExactIsSymmetric", unfollowed := true, recurses := true, apart := false }
def FnExactIsSymmetricSaid : Prop := fnExactIsSymmetricRow.holds Try.pinned (OpenSpec.ofChange fnExactIsSymmetricSpec)

/-- ITS FALSE NEIGHBOUR: 'it returns false'. Refute it at one input. -/
def fnExactIsSymmetricWrong : ChangeSpec := { name := "fnExactIsSymmetric", fn := fun _ => fun
  | [d] => { results := [.lit (.bool false)], args := [d] }
  | _ => none }
def FnExactIsSymmetricWrongFalsely : Prop := fnExactIsSymmetricRow.holds Try.pinned (OpenSpec.ofChange fnExactIsSymmetricWrong)

/-- 'laws.FnExactRollAt': WHATEVER THE INPUT: true; the input reads as it did. -/
def fnExactRollAtSpec : ChangeSpec := { name := "fnExactRollAt", fn := fun _ => fun
  | [d1, d2] => { results := [.lit (.bool true)], args := [d1, d2] }
  | _ => none }
def fnExactRollAtRow : OpenClaim := { program := "ytmhlfpcndgoemaa", sum := "9e0d554120eb79ae5eb28598b9799cdcc59dde8d879ba0ae4035ca6ee20edbb6", func := "loop.example/g01210/laws.FnExactRollAt", spec := "fnExactRollAt", unfollowed := true, recurses := true, apart := false }
def FnExactRollAtSaid : Prop := fnExactRollAtRow.holds Try.pinned (OpenSpec.ofChange fnExactRollAtSpec)

/-- ITS FALSE NEIGHBOUR: 'it returns false'. Refute it at one input. -/
def fnExactRollAtWrong : ChangeSpec := { name := "fnExactRollAt", fn := fun _ => fun
  | [d1, d2] => { results := [.lit (.bool false)], args := [d1, d2] }
  | _ => none }
def FnExactRollAtWrongFalsely : Prop := fnExactRollAtRow.holds Try.pinned (OpenSpec.ofChange fnExactRollAtWrong)

/-- 'laws.FnExactIsRingRow': WHATEVER THE INPUT: true; the input reads as it did. -/
def fnExactIsRingRowSpec : ChangeSpec := { name := "fnExactIsRingRow", fn := fun _ => fun
  | [d] => { results := [.lit (.bool true)], args := [d] }
  | _ => none }
def fnExactIsRingRowRow : OpenClaim := { program := "ytmhlfpcndgoemaa", sum := "9e0d554120eb79ae5eb28598b9799cdcc59dde8d879ba0ae4035ca6ee20edbb6", func := "loop.example/g01210/laws.FnExactIsRingRow", spec := "fnExactIsRingRow", unfollowed := true, recurses := true, apart := false }
def FnExactIsRingRowSaid : Prop := fnExactIsRingRowRow.holds Try.pinned (OpenSpec.ofChange fnExactIsRingRowSpec)

/-- ITS FALSE NEIGHBOUR: 'it returns false'. Refute it at one input. -/
def fnExactIsRingRowWrong : ChangeSpec := { name := "fnExactIsRingRow", fn := fun _ => fun
  | [d] => { results := [.lit (.bool false)], args := [d] }
  | _ => none }
def FnExactIsRingRowWrongFalsely : Prop := fnExactIsRingRowRow.holds Try.pinned (OpenSpec.ofChange fnExactIsRingRowWrong)

/-- 'laws.FnExactChanceOfSum': WHATEVER THE INPUT: true; the input reads as it did. -/
def fnExactChanceOfSumSpec : ChangeSpec := { name := "fnExactChanceOfSum", fn := fun _ => fun
  | [d1, d2] => { results := [.lit (.bool true)], args := [d1, d2] }
  | _ => none }
def fnExactChanceOfSumRow : OpenClaim := { program := "ytmhlfpcndgoemaa", sum := "9e0d554120eb79ae5eb28598b9799cdcc59dde8d879ba0ae4035ca6ee20edbb6", func := "loop.example/g01210/laws.FnExactChanceOfSum", spec := "fnExactChanceOfSum", unfollowed := true, recurses := true, apart := false }
def FnExactChanceOfSumSaid : Prop := fnExactChanceOfSumRow.holds Try.pinned (OpenSpec.ofChange fnExactChanceOfSumSpec)

/-- ITS FALSE NEIGHBOUR: 'it returns false'. Refute it at one input. -/
def fnExactChanceOfSumWrong : ChangeSpec := { name := "fnExactChanceOfSum", fn := fun _ => fun
  | [d1, d2] => { results := [.lit (.bool false)], args := [d1, d2] }
  | _ => none }
def FnExactChanceOfSumWrongFalsely : Prop := fnExactChanceOfSumRow.holds Try.pinned (OpenSpec.ofChange fnExactChanceOfSumWrong)

/-- 'laws.FnExactSafestOf': WHATEVER THE INPUT: true; the input reads as it did. -/
def fnExactSafestOfSpec : ChangeSpec := { name := "fnExactSafestOf", fn := fun _ => fun
  | [d] => { results := [.lit (.bool true)], args := [d] }
  | _ => none }
def fnExactSafestOfRow : OpenClaim := { program := "ytmhlfpcndgoemaa", sum := "9e0d554120eb79ae5eb28598b9799cdcc59dde8d879ba0ae4035ca6ee20edbb6", func := "loop.example/g01210/laws.FnExactSafestOf", spec := "fnExactSafestOf", unfollowed := true, recurses := true, apart := false }
def FnExactSafestOfSaid : Prop := fnExactSafestOfRow.holds Try.pinned (OpenSpec.ofChange fnExactSafestOfSpec)

/-- ITS FALSE NEIGHBOUR: 'it returns false'. Refute it at one input. -/
def fnExactSafestOfWrong : ChangeSpec := { name := "fnExactSafestOf", fn := fun _ => fun
  | [d] => { results := [.lit (.bool false)], args := [d] }
  | _ => none }
def FnExactSafestOfWrongFalsely : Prop := fnExactSafestOfRow.holds Try.pinned (OpenSpec.ofChange fnExactSafestOfWrong)

/-- 'laws.FnExactOneLike': WHATEVER THE INPUT: true; the input reads as it did. -/
def fnExactOneLikeSpec : ChangeSpec := { name := "fnExactOneLike", fn := fun _ => fun
  | [d] => { results := [.lit (.bool true)], args := [d] }
  | _ => none }
def fnExactOneLikeRow : OpenClaim := { program := "ytmhlfpcndgoemaa", sum := "9e0d554120eb79ae5eb28598b9799cdcc59dde8d879ba0ae4035ca6ee20edbb6", func := "loop.example/g01210/laws.FnExactOneLike", spec := "fnExactOneLike", unfollowed := true, recurses := true, apart := false }
def FnExactOneLikeSaid : Prop := fnExactOneLikeRow.holds Try.pinned (OpenSpec.ofChange fnExactOneLikeSpec)

/-- ITS FALSE NEIGHBOUR: 'it returns false'. Refute it at one input. -/
def fnExactOneLikeWrong : ChangeSpec := { name := "fnExactOneLike", fn := fun _ => fun
  | [d] => { results := [.lit (.bool false)], args := [d] }
  | _ => none }
def FnExactOneLikeWrongFalsely : Prop := fnExactOneLikeRow.holds Try.pinned (OpenSpec.ofChange fnExactOneLikeWrong)

/-- 'laws.FnExactChanceAtLeast': WHATEVER THE INPUT: true; the input reads as it did. -/
def fnExactChanceAtLeastSpec : ChangeSpec := { name := "fnExactChanceAtLeast", fn := fun _ => fun
  | [d1, d2] => { results := [.lit (.bool true)], args := [d1, d2] }
  | _ => none }
def fnExactChanceAtLeastRow : OpenClaim := { program := "ytmhlfpcndgoemaa", sum := "9e0d554120eb79ae5eb28598b9799cdcc59dde8d879ba0ae4035ca6ee20edbb6", func := "loop.example/g01210/laws.FnExactChanceAtLeast", spec := "fnExactChanceAtLeast", unfollowed := true, recurses := true, apart := false }
def FnExactChanceAtLeastSaid : Prop := fnExactChanceAtLeastRow.holds Try.pinned (OpenSpec.ofChange fnExactChanceAtLeastSpec)

/-- ITS FALSE NEIGHBOUR: 'it returns false'. Refute it at one input. -/
def fnExactChanceAtLeastWrong : ChangeSpec := { name := "fnExactChanceAtLeast", fn := fun _ => fun
  | [d1, d2] => { results := [.lit (.bool false)], args := [d1, d2] }
  | _ => none }
def FnExactChanceAtLeastWrongFalsely : Prop := fnExactChanceAtLeastRow.holds Try.pinned (OpenSpec.ofChange fnExactChanceAtLeastWrong)

/-- 'laws.FnExactChanceLevel': WHATEVER THE INPUT: true; the input reads as it did. -/
def fnExactChanceLevelSpec : ChangeSpec := { name := "fnExactChanceLevel", fn := fun _ => fun
  | [d1, d2] => { results := [.lit (.bool true)], args := [d1, d2] }
  | _ => none }
def fnExactChanceLevelRow : OpenClaim := { program := "ytmhlfpcndgoemaa", sum := "9e0d554120eb79ae5eb28598b9799cdcc59dde8d879ba0ae4035ca6ee20edbb6", func := "loop.example/g01210/laws.FnExactChanceLevel", spec := "fnExactChanceLevel", unfollowed := true, recurses := true, apart := false }
def FnExactChanceLevelSaid : Prop := fnExactChanceLevelRow.holds Try.pinned (OpenSpec.ofChange fnExactChanceLevelSpec)

/-- ITS FALSE NEIGHBOUR: 'it returns false'. Refute it at one input. -/
def fnExactChanceLevelWrong : ChangeSpec := { name := "fnExactChanceLevel", fn := fun _ => fun
  | [d1, d2] => { results := [.lit (.bool false)], args := [d1, d2] }
  | _ => none }
def FnExactChanceLevelWrongFalsely : Prop := fnExactChanceLevelRow.holds Try.pinned (OpenSpec.ofChange fnExactChanceLevelWrong)

/-- 'laws.FnExactChanceToBeat': WHATEVER THE INPUT: true; the input reads as it did. -/
def fnExactChanceToBeatSpec : ChangeSpec := { name := "fnExactChanceToBeat", fn := fun _ => fun
  | [d1, d2] => { results := [.lit (.bool true)], args := [d1, d2] }
  | _ => none }
def fnExactChanceToBeatRow : OpenClaim := { program := "ytmhlfpcndgoemaa", sum := "9e0d554120eb79ae5eb28598b9799cdcc59dde8d879ba0ae4035ca6ee20edbb6", func := "loop.example/g01210/laws.FnExactChanceToBeat", spec := "fnExactChanceToBeat", unfollowed := true, recurses := true, apart := false }
def FnExactChanceToBeatSaid : Prop := fnExactChanceToBeatRow.holds Try.pinned (OpenSpec.ofChange fnExactChanceToBeatSpec)

/-- ITS FALSE NEIGHBOUR: 'it returns false'. Refute it at one input. -/
def fnExactChanceToBeatWrong : ChangeSpec := { name := "fnExactChanceToBeat", fn := fun _ => fun
  | [d1, d2] => { results := [.lit (.bool false)], args := [d1, d2] }
  | _ => none }
def FnExactChanceToBeatWrongFalsely : Prop := fnExactChanceToBeatRow.holds Try.pinned (OpenSpec.ofChange fnExactChanceToBeatWrong)

/-- 'laws.FnExactTopSums': WHATEVER THE INPUT: true; the input reads as it did. -/
def fnExactTopSumsSpec : ChangeSpec := { name := "fnExactTopSums", fn := fun _ => fun
  | [d] => { results := [.lit (.bool true)], args := [d] }
  | _ => none }
def fnExactTopSumsRow : OpenClaim := { program := "ytmhlfpcndgoemaa", sum := "9e0d554120eb79ae5eb28598b9799cdcc59dde8d879ba0ae4035ca6ee20edbb6", func := "loop.example/g01210/laws.FnExactTopSums", spec := "fnExactTopSums", unfollowed := true, recurses := true, apart := false }
def FnExactTopSumsSaid : Prop := fnExactTopSumsRow.holds Try.pinned (OpenSpec.ofChange fnExactTopSumsSpec)

/-- ITS FALSE NEIGHBOUR: 'it returns false'. Refute it at one input. -/
def fnExactTopSumsWrong : ChangeSpec := { name := "fnExactTopSums", fn := fun _ => fun
  | [d] => { results := [.lit (.bool false)], args := [d] }
  | _ => none }
def FnExactTopSumsWrongFalsely : Prop := fnExactTopSumsRow.holds Try.pinned (OpenSpec.ofChange fnExactTopSumsWrong)

/-- 'laws.FnExactBeatenBy': WHATEVER THE INPUT: true; the input reads as it did. -/
def fnExactBeatenBySpec : ChangeSpec := { name := "fnExactBeatenBy", fn := fun _ => fun
  | [d] => { results := [.lit (.bool true)], args := [d] }
  | _ => none }
def fnExactBeatenByRow : OpenClaim := { program := "ytmhlfpcndgoemaa", sum := "9e0d554120eb79ae5eb28598b9799cdcc59dde8d879ba0ae4035ca6ee20edbb6", func := "loop.example/g01210/laws.FnExactBeatenBy", spec := "fnExactBeatenBy", unfollowed := true, recurses := true, apart := false }
def FnExactBeatenBySaid : Prop := fnExactBeatenByRow.holds Try.pinned (OpenSpec.ofChange fnExactBeatenBySpec)

/-- ITS FALSE NEIGHBOUR: 'it returns false'. Refute it at one input. -/
def fnExactBeatenByWrong : ChangeSpec := { name := "fnExactBeatenBy", fn := fun _ => fun
  | [d] => { results := [.lit (.bool false)], args := [d] }
  | _ => none }
def FnExactBeatenByWrongFalsely : Prop := fnExactBeatenByRow.holds Try.pinned (OpenSpec.ofChange fnExactBeatenByWrong)

/-- 'laws.FnExactLevelPairs': WHATEVER THE INPUT: true; the input reads as it did. -/
def fnExactLevelPairsSpec : ChangeSpec := { name := "fnExactLevelPairs", fn := fun _ => fun
  | [d] => { results := [.lit (.bool true)], args := [d] }
  | _ => none }
def fnExactLevelPairsRow : OpenClaim := { program := "ytmhlfpcndgoemaa", sum := "9e0d554120eb79ae5eb28598b9799cdcc59dde8d879ba0ae4035ca6ee20edbb6", func := "loop.example/g01210/laws.FnExactLevelPairs", spec := "fnExactLevelPairs", unfollowed := true, recurses := true, apart := false }
def FnExactLevelPairsSaid : Prop := fnExactLevelPairsRow.holds Try.pinned (OpenSpec.ofChange fnExactLevelPairsSpec)

/-- ITS FALSE NEIGHBOUR: 'it returns false'. Refute it at one input. -/
def fnExactLevelPairsWrong : ChangeSpec := { name := "fnExactLevelPairs", fn := fun _ => fun
  | [d] => { results := [.lit (.bool false)], args := [d] }
  | _ => none }
def FnExactLevelPairsWrongFalsely : Prop := fnExactLevelPairsRow.holds Try.pinned (OpenSpec.ofChange fnExactLevelPairsWrong)

/-- 'laws.FnExactBeatTable': WHATEVER THE INPUT: true; the input reads as it did. -/
def fnExactBeatTableSpec : ChangeSpec := { name := "fnExactBeatTable", fn := fun _ => fun
  | [d] => { results := [.lit (.bool true)], args := [d] }
  | _ => none }
def fnExactBeatTableRow : OpenClaim := { program := "ytmhlfpcndgoemaa", sum := "9e0d554120eb79ae5eb28598b9799cdcc59dde8d879ba0ae4035ca6ee20edbb6", func := "loop.example/g01210/laws.FnExactBeatTable", spec := "fnExactBeatTable", unfollowed := true, recurses := true, apart := false }
def FnExactBeatTableSaid : Prop := fnExactBeatTableRow.holds Try.pinned (OpenSpec.ofChange fnExactBeatTableSpec)

/-- ITS FALSE NEIGHBOUR: 'it returns false'. Refute it at one input. -/
def fnExactBeatTableWrong : ChangeSpec := { name := "fnExactBeatTable", fn := fun _ => fun
  | [d] => { results := [.lit (.bool false)], args := [d] }
  | _ => none }
def FnExactBeatTableWrongFalsely : Prop := fnExactBeatTableRow.holds Try.pinned (OpenSpec.ofChange fnExactBeatTableWrong)

/- THE SECOND FORM. 'bulk': how many values and letters a reading holds, each counted each time it is reached (what is shared counts as often as it is met; a slice's spare places count too). A statement '..UptoSaid' is the law's where the arguments, and the package variables that the reading takes, are together of bulk at most 1048576: NARROWER than '..Said'. Prove '..Said' where nothing that the law and all that it calls make is longer than what came in: it says more and counts as full. Else prove '..UptoSaid'. A law counts once. -/
mutual
def uptoBulk {H : Type} : DataW H → Nat
  | .lit (.string bytes) => bytes.length + 1
  | .lit _ => 1
  | .nil => 1
  | .ptr d => uptoBulk d + 1
  | .slice elems spare => uptoBulkAll elems + uptoBulkAll spare + 1
  | .agg parts => uptoBulkAll parts + 1
  | .iface _ d => uptoBulk d + 1
  | .map entries => uptoBulkEntries entries + 1
  | .held _ => 1
def uptoBulkAll {H : Type} : List (DataW H) → Nat
  | [] => 0
  | d :: r => uptoBulk d + uptoBulkAll r
def uptoBulkEntries {H : Type} : List (Lit × DataW H) → Nat
  | [] => 0
  | x :: r => uptoBulkEntry x + uptoBulkEntries r
def uptoBulkEntry {H : Type} : Lit × DataW H → Nat
  | (.string bytes, d) => bytes.length + uptoBulk d + 1
  | (_, d) => uptoBulk d + 1
 end
def uptoSmall : (H : Type) → List (DataW H) → Bool := fun _ ds => decide (uptoBulkAll ds ≤ 1048576)
def OpenSpec.upto (s : _root_.Go.ChangeSpec) : _root_.Go.OpenSpec := { _root_.Go.OpenSpec.ofChange s with cond := some uptoSmall }

/-- 'laws.FnExactIsDie', WHERE WHAT IT READS IS OF BULK AT MOST 1048576: true; the input reads as it did. -/
def fnExactIsDieUptoRow : OpenClaim := { program := "ytmhlfpcndgoemaa", sum := "9e0d554120eb79ae5eb28598b9799cdcc59dde8d879ba0ae4035ca6ee20edbb6", func := "loop.example/g01210/laws.FnExactIsDie", spec := "fnExactIsDie", unfollowed := true, recurses := true, apart := false, narrowed := true }
def FnExactIsDieUptoSaid : Prop := fnExactIsDieUptoRow.holds Try.pinned (OpenSpec.upto fnExactIsDieSpec)

/-- 'laws.FnExactDoesCover', WHERE WHAT IT READS IS OF BULK AT MOST 1048576: true; the input reads as it did. -/
def fnExactDoesCoverUptoRow : OpenClaim := { program := "ytmhlfpcndgoemaa", sum := "9e0d554120eb79ae5eb28598b9799cdcc59dde8d879ba0ae4035ca6ee20edbb6", func := "loop.example/g01210/laws.FnExactDoesCover", spec := "fnExactDoesCover", unfollowed := true, recurses := true, apart := false, narrowed := true }
def FnExactDoesCoverUptoSaid : Prop := fnExactDoesCoverUptoRow.holds Try.pinned (OpenSpec.upto fnExactDoesCoverSpec)

/-- 'laws.FnExactCountFaces', WHERE WHAT IT READS IS OF BULK AT MOST 1048576: true; the input reads as it did. -/
def fnExactCountFacesUptoRow : OpenClaim := { program := "ytmhlfpcndgoemaa", sum := "9e0d554120eb79ae5eb28598b9799cdcc59dde8d879ba0ae4035ca6ee20edbb6", func := "loop.example/g01210/laws.FnExactCountFaces", spec := "fnExactCountFaces", unfollowed := true, recurses := true, apart := false, narrowed := true }
def FnExactCountFacesUptoSaid : Prop := fnExactCountFacesUptoRow.holds Try.pinned (OpenSpec.upto fnExactCountFacesSpec)

/-- 'laws.FnExactOppositeDie', WHERE WHAT IT READS IS OF BULK AT MOST 1048576: true; the input reads as it did. -/
def fnExactOppositeDieUptoRow : OpenClaim := { program := "ytmhlfpcndgoemaa", sum := "9e0d554120eb79ae5eb28598b9799cdcc59dde8d879ba0ae4035ca6ee20edbb6", func := "loop.example/g01210/laws.FnExactOppositeDie", spec := "fnExactOppositeDie", unfollowed := true, recurses := true, apart := false, narrowed := true }
def FnExactOppositeDieUptoSaid : Prop := fnExactOppositeDieUptoRow.holds Try.pinned (OpenSpec.upto fnExactOppositeDieSpec)

/-- 'laws.FnExactShiftDie', WHERE WHAT IT READS IS OF BULK AT MOST 1048576: true; the input reads as it did. -/
def fnExactShiftDieUptoRow : OpenClaim := { program := "ytmhlfpcndgoemaa", sum := "9e0d554120eb79ae5eb28598b9799cdcc59dde8d879ba0ae4035ca6ee20edbb6", func := "loop.example/g01210/laws.FnExactShiftDie", spec := "fnExactShiftDie", unfollowed := true, recurses := true, apart := false, narrowed := true }
def FnExactShiftDieUptoSaid : Prop := fnExactShiftDieUptoRow.holds Try.pinned (OpenSpec.upto fnExactShiftDieSpec)

/-- 'laws.FnExactBaseOf', WHERE WHAT IT READS IS OF BULK AT MOST 1048576: true; the input reads as it did. -/
def fnExactBaseOfUptoRow : OpenClaim := { program := "ytmhlfpcndgoemaa", sum := "9e0d554120eb79ae5eb28598b9799cdcc59dde8d879ba0ae4035ca6ee20edbb6", func := "loop.example/g01210/laws.FnExactBaseOf", spec := "fnExactBaseOf", unfollowed := true, recurses := true, apart := false, narrowed := true }
def FnExactBaseOfUptoSaid : Prop := fnExactBaseOfUptoRow.holds Try.pinned (OpenSpec.upto fnExactBaseOfSpec)

/-- 'laws.FnExactIsPool', WHERE WHAT IT READS IS OF BULK AT MOST 1048576: true; the input reads as it did. -/
def fnExactIsPoolUptoRow : OpenClaim := { program := "ytmhlfpcndgoemaa", sum := "9e0d554120eb79ae5eb28598b9799cdcc59dde8d879ba0ae4035ca6ee20edbb6", func := "loop.example/g01210/laws.FnExactIsPool", spec := "fnExactIsPool", unfollowed := true, recurses := true, apart := false, narrowed := true }
def FnExactIsPoolUptoSaid : Prop := fnExactIsPoolUptoRow.holds Try.pinned (OpenSpec.upto fnExactIsPoolSpec)

/-- 'laws.FnExactIsPair', WHERE WHAT IT READS IS OF BULK AT MOST 1048576: true; the input reads as it did. -/
def fnExactIsPairUptoRow : OpenClaim := { program := "ytmhlfpcndgoemaa", sum := "9e0d554120eb79ae5eb28598b9799cdcc59dde8d879ba0ae4035ca6ee20edbb6", func := "loop.example/g01210/laws.FnExactIsPair", spec := "fnExactIsPair", unfollowed := true, recurses := true, apart := false, narrowed := true }
def FnExactIsPairUptoSaid : Prop := fnExactIsPairUptoRow.holds Try.pinned (OpenSpec.upto fnExactIsPairSpec)

/-- 'laws.FnExactLessDie', WHERE WHAT IT READS IS OF BULK AT MOST 1048576: true; the input reads as it did. -/
def fnExactLessDieUptoRow : OpenClaim := { program := "ytmhlfpcndgoemaa", sum := "9e0d554120eb79ae5eb28598b9799cdcc59dde8d879ba0ae4035ca6ee20edbb6", func := "loop.example/g01210/laws.FnExactLessDie", spec := "fnExactLessDie", unfollowed := true, recurses := true, apart := false, narrowed := true }
def FnExactLessDieUptoSaid : Prop := fnExactLessDieUptoRow.holds Try.pinned (OpenSpec.upto fnExactLessDieSpec)

/-- 'laws.FnExactCompareDice', WHERE WHAT IT READS IS OF BULK AT MOST 1048576: true; the input reads as it did. -/
def fnExactCompareDiceUptoRow : OpenClaim := { program := "ytmhlfpcndgoemaa", sum := "9e0d554120eb79ae5eb28598b9799cdcc59dde8d879ba0ae4035ca6ee20edbb6", func := "loop.example/g01210/laws.FnExactCompareDice", spec := "fnExactCompareDice", unfollowed := true, recurses := true, apart := false, narrowed := true }
def FnExactCompareDiceUptoSaid : Prop := fnExactCompareDiceUptoRow.holds Try.pinned (OpenSpec.upto fnExactCompareDiceSpec)

/-- 'laws.FnExactDoesBeat', WHERE WHAT IT READS IS OF BULK AT MOST 1048576: true; the input reads as it did. -/
def fnExactDoesBeatUptoRow : OpenClaim := { program := "ytmhlfpcndgoemaa", sum := "9e0d554120eb79ae5eb28598b9799cdcc59dde8d879ba0ae4035ca6ee20edbb6", func := "loop.example/g01210/laws.FnExactDoesBeat", spec := "fnExactDoesBeat", unfollowed := true, recurses := true, apart := false, narrowed := true }
def FnExactDoesBeatUptoSaid : Prop := fnExactDoesBeatUptoRow.holds Try.pinned (OpenSpec.upto fnExactDoesBeatSpec)

/-- 'laws.FnExactBoundsOf', WHERE WHAT IT READS IS OF BULK AT MOST 1048576: true; the input reads as it did. -/
def fnExactBoundsOfUptoRow : OpenClaim := { program := "ytmhlfpcndgoemaa", sum := "9e0d554120eb79ae5eb28598b9799cdcc59dde8d879ba0ae4035ca6ee20edbb6", func := "loop.example/g01210/laws.FnExactBoundsOf", spec := "fnExactBoundsOf", unfollowed := true, recurses := true, apart := false, narrowed := true }
def FnExactBoundsOfUptoSaid : Prop := fnExactBoundsOfUptoRow.holds Try.pinned (OpenSpec.upto fnExactBoundsOfSpec)

/-- 'laws.FnExactLeastShift', WHERE WHAT IT READS IS OF BULK AT MOST 1048576: true; the input reads as it did. -/
def fnExactLeastShiftUptoRow : OpenClaim := { program := "ytmhlfpcndgoemaa", sum := "9e0d554120eb79ae5eb28598b9799cdcc59dde8d879ba0ae4035ca6ee20edbb6", func := "loop.example/g01210/laws.FnExactLeastShift", spec := "fnExactLeastShift", unfollowed := true, recurses := true, apart := false, narrowed := true }
def FnExactLeastShiftUptoSaid : Prop := fnExactLeastShiftUptoRow.holds Try.pinned (OpenSpec.upto fnExactLeastShiftSpec)

/-- 'laws.FnExactPairOf', WHERE WHAT IT READS IS OF BULK AT MOST 1048576: true; the input reads as it did. -/
def fnExactPairOfUptoRow : OpenClaim := { program := "ytmhlfpcndgoemaa", sum := "9e0d554120eb79ae5eb28598b9799cdcc59dde8d879ba0ae4035ca6ee20edbb6", func := "loop.example/g01210/laws.FnExactPairOf", spec := "fnExactPairOf", unfollowed := true, recurses := true, apart := false, narrowed := true }
def FnExactPairOfUptoSaid : Prop := fnExactPairOfUptoRow.holds Try.pinned (OpenSpec.upto fnExactPairOfSpec)

/-- 'laws.FnExactSumTable', WHERE WHAT IT READS IS OF BULK AT MOST 1048576: true; the input reads as it did. -/
def fnExactSumTableUptoRow : OpenClaim := { program := "ytmhlfpcndgoemaa", sum := "9e0d554120eb79ae5eb28598b9799cdcc59dde8d879ba0ae4035ca6ee20edbb6", func := "loop.example/g01210/laws.FnExactSumTable", spec := "fnExactSumTable", unfollowed := true, recurses := true, apart := false, narrowed := true }
def FnExactSumTableUptoSaid : Prop := fnExactSumTableUptoRow.holds Try.pinned (OpenSpec.upto fnExactSumTableSpec)

/-- 'laws.FnExactAreLike', WHERE WHAT IT READS IS OF BULK AT MOST 1048576: true; the input reads as it did. -/
def fnExactAreLikeUptoRow : OpenClaim := { program := "ytmhlfpcndgoemaa", sum := "9e0d554120eb79ae5eb28598b9799cdcc59dde8d879ba0ae4035ca6ee20edbb6", func := "loop.example/g01210/laws.FnExactAreLike", spec := "fnExactAreLike", unfollowed := true, recurses := true, apart := false, narrowed := true }
def FnExactAreLikeUptoSaid : Prop := fnExactAreLikeUptoRow.holds Try.pinned (OpenSpec.upto fnExactAreLikeSpec)

/-- 'laws.FnExactMeanOf', WHERE WHAT IT READS IS OF BULK AT MOST 1048576: true; the input reads as it did. -/
def fnExactMeanOfUptoRow : OpenClaim := { program := "ytmhlfpcndgoemaa", sum := "9e0d554120eb79ae5eb28598b9799cdcc59dde8d879ba0ae4035ca6ee20edbb6", func := "loop.example/g01210/laws.FnExactMeanOf", spec := "fnExactMeanOf", unfollowed := true, recurses := true, apart := false, narrowed := true }
def FnExactMeanOfUptoSaid : Prop := fnExactMeanOfUptoRow.holds Try.pinned (OpenSpec.upto fnExactMeanOfSpec)

/-- 'laws.FnExactSpreadOf', WHERE WHAT IT READS IS OF BULK AT MOST 1048576: true; the input reads as it did. -/
def fnExactSpreadOfUptoRow : OpenClaim := { program := "ytmhlfpcndgoemaa", sum := "9e0d554120eb79ae5eb28598b9799cdcc59dde8d879ba0ae4035ca6ee20edbb6", func := "loop.example/g01210/laws.FnExactSpreadOf", spec := "fnExactSpreadOf", unfollowed := true, recurses := true, apart := false, narrowed := true }
def FnExactSpreadOfUptoSaid : Prop := fnExactSpreadOfUptoRow.holds Try.pinned (OpenSpec.upto fnExactSpreadOfSpec)

/-- 'laws.FnExactShapeOf', WHERE WHAT IT READS IS OF BULK AT MOST 1048576: true; the input reads as it did. -/
def fnExactShapeOfUptoRow : OpenClaim := { program := "ytmhlfpcndgoemaa", sum := "9e0d554120eb79ae5eb28598b9799cdcc59dde8d879ba0ae4035ca6ee20edbb6", func := "loop.example/g01210/laws.FnExactShapeOf", spec := "fnExactShapeOf", unfollowed := true, recurses := true, apart := false, narrowed := true }
def FnExactShapeOfUptoSaid : Prop := fnExactShapeOfUptoRow.holds Try.pinned (OpenSpec.upto fnExactShapeOfSpec)

/-- 'laws.FnExactBestAgainst', WHERE WHAT IT READS IS OF BULK AT MOST 1048576: true; the input reads as it did. -/
def fnExactBestAgainstUptoRow : OpenClaim := { program := "ytmhlfpcndgoemaa", sum := "9e0d554120eb79ae5eb28598b9799cdcc59dde8d879ba0ae4035ca6ee20edbb6", func := "loop.example/g01210/laws.FnExactBestAgainst", spec := "fnExactBestAgainst", unfollowed := true, recurses := true, apart := false, narrowed := true }
def FnExactBestAgainstUptoSaid : Prop := fnExactBestAgainstUptoRow.holds Try.pinned (OpenSpec.upto fnExactBestAgainstSpec)

/-- 'laws.FnExactSameSums', WHERE WHAT IT READS IS OF BULK AT MOST 1048576: true; the input reads as it did. -/
def fnExactSameSumsUptoRow : OpenClaim := { program := "ytmhlfpcndgoemaa", sum := "9e0d554120eb79ae5eb28598b9799cdcc59dde8d879ba0ae4035ca6ee20edbb6", func := "loop.example/g01210/laws.FnExactSameSums", spec := "fnExactSameSums", unfollowed := true, recurses := true, apart := false, narrowed := true }
def FnExactSameSumsUptoSaid : Prop := fnExactSameSumsUptoRow.holds Try.pinned (OpenSpec.upto fnExactSameSumsSpec)

/-- 'laws.FnExactMirrorPair', WHERE WHAT IT READS IS OF BULK AT MOST 1048576: true; the input reads as it did. -/
def fnExactMirrorPairUptoRow : OpenClaim := { program := "ytmhlfpcndgoemaa", sum := "9e0d554120eb79ae5eb28598b9799cdcc59dde8d879ba0ae4035ca6ee20edbb6", func := "loop.example/g01210/laws.FnExactMirrorPair", spec := "fnExactMirrorPair", unfollowed := true, recurses := true, apart := false, narrowed := true }
def FnExactMirrorPairUptoSaid : Prop := fnExactMirrorPairUptoRow.holds Try.pinned (OpenSpec.upto fnExactMirrorPairSpec)

/-- 'laws.FnExactIsSymmetric', WHERE WHAT IT READS IS OF BULK AT MOST 1048576: true; the input reads as it did. -/
def fnExactIsSymmetricUptoRow : OpenClaim := { program := "ytmhlfpcndgoemaa", sum := "9e0d554120eb79ae5eb28598b9799cdcc59dde8d879ba0ae4035ca6ee20edbb6", func := "loop.example/g01210/laws.FnExactIsSymmetric", spec := "fnExactIsSymmetric", unfollowed := true, recurses := true, apart := false, narrowed := true }
def FnExactIsSymmetricUptoSaid : Prop := fnExactIsSymmetricUptoRow.holds Try.pinned (OpenSpec.upto fnExactIsSymmetricSpec)

/-- 'laws.FnExactRollAt', WHERE WHAT IT READS IS OF BULK AT MOST 1048576: true; the input reads as it did. -/
def fnExactRollAtUptoRow : OpenClaim := { program := "ytmhlfpcndgoemaa", sum := "9e0d554120eb79ae5eb28598b9799cdcc59dde8d879ba0ae4035ca6ee20edbb6", func := "loop.example/g01210/laws.FnExactRollAt", spec := "fnExactRollAt", unfollowed := true, recurses := true, apart := false, narrowed := true }
def FnExactRollAtUptoSaid : Prop := fnExactRollAtUptoRow.holds Try.pinned (OpenSpec.upto fnExactRollAtSpec)

/-- 'laws.FnExactIsRingRow', WHERE WHAT IT READS IS OF BULK AT MOST 1048576: true; the input reads as it did. -/
def fnExactIsRingRowUptoRow : OpenClaim := { program := "ytmhlfpcndgoemaa", sum := "9e0d554120eb79ae5eb28598b9799cdcc59dde8d879ba0ae4035ca6ee20edbb6", func := "loop.example/g01210/laws.FnExactIsRingRow", spec := "fnExactIsRingRow", unfollowed := true, recurses := true, apart := false, narrowed := true }
def FnExactIsRingRowUptoSaid : Prop := fnExactIsRingRowUptoRow.holds Try.pinned (OpenSpec.upto fnExactIsRingRowSpec)

/-- 'laws.FnExactChanceOfSum', WHERE WHAT IT READS IS OF BULK AT MOST 1048576: true; the input reads as it did. -/
def fnExactChanceOfSumUptoRow : OpenClaim := { program := "ytmhlfpcndgoemaa", sum := "9e0d554120eb79ae5eb28598b9799cdcc59dde8d879ba0ae4035ca6ee20edbb6", func := "loop.example/g01210/laws.FnExactChanceOfSum", spec := "fnExactChanceOfSum", unfollowed := true, recurses := true, apart := false, narrowed := true }
def FnExactChanceOfSumUptoSaid : Prop := fnExactChanceOfSumUptoRow.holds Try.pinned (OpenSpec.upto fnExactChanceOfSumSpec)

/-- 'laws.FnExactSafestOf', WHERE WHAT IT READS IS OF BULK AT MOST 1048576: true; the input reads as it did. -/
def fnExactSafestOfUptoRow : OpenClaim := { program := "ytmhlfpcndgoemaa", sum := "9e0d554120eb79ae5eb28598b9799cdcc59dde8d879ba0ae4035ca6ee20edbb6", func := "loop.example/g01210/laws.FnExactSafestOf", spec := "fnExactSafestOf", unfollowed := true, recurses := true, apart := false, narrowed := true }
def FnExactSafestOfUptoSaid : Prop := fnExactSafestOfUptoRow.holds Try.pinned (OpenSpec.upto fnExactSafestOfSpec)

/-- 'laws.FnExactOneLike', WHERE WHAT IT READS IS OF BULK AT MOST 1048576: true; the input reads as it did. -/
def fnExactOneLikeUptoRow : OpenClaim := { program := "ytmhlfpcndgoemaa", sum := "9e0d554120eb79ae5eb28598b9799cdcc59dde8d879ba0ae4035ca6ee20edbb6", func := "loop.example/g01210/laws.FnExactOneLike", spec := "fnExactOneLike", unfollowed := true, recurses := true, apart := false, narrowed := true }
def FnExactOneLikeUptoSaid : Prop := fnExactOneLikeUptoRow.holds Try.pinned (OpenSpec.upto fnExactOneLikeSpec)

/-- 'laws.FnExactChanceAtLeast', WHERE WHAT IT READS IS OF BULK AT MOST 1048576: true; the input reads as it did. -/
def fnExactChanceAtLeastUptoRow : OpenClaim := { program := "ytmhlfpcndgoemaa", sum := "9e0d554120eb79ae5eb28598b9799cdcc59dde8d879ba0ae4035ca6ee20edbb6", func := "loop.example/g01210/laws.FnExactChanceAtLeast", spec := "fnExactChanceAtLeast", unfollowed := true, recurses := true, apart := false, narrowed := true }
def FnExactChanceAtLeastUptoSaid : Prop := fnExactChanceAtLeastUptoRow.holds Try.pinned (OpenSpec.upto fnExactChanceAtLeastSpec)

/-- 'laws.FnExactChanceLevel', WHERE WHAT IT READS IS OF BULK AT MOST 1048576: true; the input reads as it did. -/
def fnExactChanceLevelUptoRow : OpenClaim := { program := "ytmhlfpcndgoemaa", sum := "9e0d554120eb79ae5eb28598b9799cdcc59dde8d879ba0ae4035ca6ee20edbb6", func := "loop.example/g01210/laws.FnExactChanceLevel", spec := "fnExactChanceLevel", unfollowed := true, recurses := true, apart := false, narrowed := true }
def FnExactChanceLevelUptoSaid : Prop := fnExactChanceLevelUptoRow.holds Try.pinned (OpenSpec.upto fnExactChanceLevelSpec)

/-- 'laws.FnExactChanceToBeat', WHERE WHAT IT READS IS OF BULK AT MOST 1048576: true; the input reads as it did. -/
def fnExactChanceToBeatUptoRow : OpenClaim := { program := "ytmhlfpcndgoemaa", sum := "9e0d554120eb79ae5eb28598b9799cdcc59dde8d879ba0ae4035ca6ee20edbb6", func := "loop.example/g01210/laws.FnExactChanceToBeat", spec := "fnExactChanceToBeat", unfollowed := true, recurses := true, apart := false, narrowed := true }
def FnExactChanceToBeatUptoSaid : Prop := fnExactChanceToBeatUptoRow.holds Try.pinned (OpenSpec.upto fnExactChanceToBeatSpec)

/-- 'laws.FnExactTopSums', WHERE WHAT IT READS IS OF BULK AT MOST 1048576: true; the input reads as it did. -/
def fnExactTopSumsUptoRow : OpenClaim := { program := "ytmhlfpcndgoemaa", sum := "9e0d554120eb79ae5eb28598b9799cdcc59dde8d879ba0ae4035ca6ee20edbb6", func := "loop.example/g01210/laws.FnExactTopSums", spec := "fnExactTopSums", unfollowed := true, recurses := true, apart := false, narrowed := true }
def FnExactTopSumsUptoSaid : Prop := fnExactTopSumsUptoRow.holds Try.pinned (OpenSpec.upto fnExactTopSumsSpec)

/-- 'laws.FnExactBeatenBy', WHERE WHAT IT READS IS OF BULK AT MOST 1048576: true; the input reads as it did. -/
def fnExactBeatenByUptoRow : OpenClaim := { program := "ytmhlfpcndgoemaa", sum := "9e0d554120eb79ae5eb28598b9799cdcc59dde8d879ba0ae4035ca6ee20edbb6", func := "loop.example/g01210/laws.FnExactBeatenBy", spec := "fnExactBeatenBy", unfollowed := true, recurses := true, apart := false, narrowed := true }
def FnExactBeatenByUptoSaid : Prop := fnExactBeatenByUptoRow.holds Try.pinned (OpenSpec.upto fnExactBeatenBySpec)

/-- 'laws.FnExactLevelPairs', WHERE WHAT IT READS IS OF BULK AT MOST 1048576: true; the input reads as it did. -/
def fnExactLevelPairsUptoRow : OpenClaim := { program := "ytmhlfpcndgoemaa", sum := "9e0d554120eb79ae5eb28598b9799cdcc59dde8d879ba0ae4035ca6ee20edbb6", func := "loop.example/g01210/laws.FnExactLevelPairs", spec := "fnExactLevelPairs", unfollowed := true, recurses := true, apart := false, narrowed := true }
def FnExactLevelPairsUptoSaid : Prop := fnExactLevelPairsUptoRow.holds Try.pinned (OpenSpec.upto fnExactLevelPairsSpec)

/-- 'laws.FnExactBeatTable', WHERE WHAT IT READS IS OF BULK AT MOST 1048576: true; the input reads as it did. -/
def fnExactBeatTableUptoRow : OpenClaim := { program := "ytmhlfpcndgoemaa", sum := "9e0d554120eb79ae5eb28598b9799cdcc59dde8d879ba0ae4035ca6ee20edbb6", func := "loop.example/g01210/laws.FnExactBeatTable", spec := "fnExactBeatTable", unfollowed := true, recurses := true, apart := false, narrowed := true }
def FnExactBeatTableUptoSaid : Prop := fnExactBeatTableUptoRow.holds Try.pinned (OpenSpec.upto fnExactBeatTableSpec)

end Rows
end Go.Proofs.Ytmhlfpcndgoemaa
