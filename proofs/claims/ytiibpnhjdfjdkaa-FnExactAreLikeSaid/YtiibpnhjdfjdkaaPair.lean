/- Contracts of functions of this program, used by the laws of this seat. No condition beyond what each theorem states. -/
import Derived.Test.YtiibpnhjdfjdkaaLex
import Derived.Test.YtiibpnhjdfjdkaaPart
import Derived.Test.YtiibpnhjdfjdkaaTurn2
set_option linter.unusedVariables false
set_option linter.unusedSimpArgs false
set_option linter.unusedSectionVars false
namespace Go.Proofs.Ytiibpnhjdfjdkaa
open Go.RowKit

theorem cmpI_anti (x y : Int) : cmpI y x = - cmpI x y := by
  unfold cmpI
  by_cases h1 : x < y
  · rw [if_pos h1, if_neg (by omega), if_pos h1]; rfl
  · by_cases h2 : y < x
    · rw [if_pos h2, if_neg h1, if_pos h2]
    · rw [if_neg h1, if_neg h2, if_neg h2, if_neg h1]; rfl
theorem lexI_anti (a b : Nat → Int) (n k : Nat) : lexI b a n k = - lexI a b n k := by
  induction n generalizing k with
  | zero => rfl
  | succ n ih =>
    simp only [lexI]
    rw [cmpI_anti (a k) (b k)]
    by_cases h : cmpI (a k) (b k) = 0
    · rw [if_pos h, if_pos (by omega), ih]
    · rw [if_neg h, if_neg (by omega)]

def pairF (a b : Nat → Int) : Nat → Int := fun i => if i < 6 then a i else b (i - 6)
abbrev pairV (a b : Nat → Int) : Value := .agg (row 12 (I (pairF a b)))
theorem pairA (a b : Nat → Int) : ∀ i, i < 6 → I (pairF a b) (0 + i) = I a i := fun i hi => by simp [I, pairF, hi]
theorem pairB (a b : Nat → Int) : ∀ i, i < 6 → I (pairF a b) (6 + i) = I b i := fun i hi => by simp [I, pairF]; intro h; omega
theorem szP : (Try.prog.info? 27).map (·.size) = some 12 := by kernel_rfl
theorem zeroP : ∀ w, (zeroValue 27).run Try.prog w = .ok (.agg (row 12 (I fun _ => 0))) w := fun _ => by kernel_rfl
theorem builtP : Try.prog.built 27 [] = some (row 12 (I fun _ => 0)) := by kernel_rfl
theorem madeP (a b : Nat → Int) : Try.prog.built 27 [(0, dieV a), (1, dieV b)] = some (row 12 (I (pairF a b))) := by kernel_rfl
theorem buildP (a b : Nat → Int) (w : World) : (Instr.build 27 #[(0, dieV a), (1, dieV b)]).run Try.prog w = .ok (pairV a b) w := run_build w 27 #[(0, dieV a), (1, dieV b)] _ (madeP a b)

/-- A Pair is built of two dice. -/
theorem wpList_pair {ops : Array Oper} {rest : List Oper} {o : Oper} {a : Act} {w : World} {Q : Exit → Act → World → Prop} (hw : Region.wanted o (yielded ops a.tmps) = true) {x y : Operand} (ho : o.op = .build 27 #[(0, x), (1, y)])
    {d e : Nat → Int} (hx : a.eval x = dieV d) (hy : a.eval y = dieV e) (h : wpList Try.prog ops Q rest (a.put o.dst (pairV d e)) w) : wpList Try.prog ops Q (o :: rest) a w :=
  wpList_build_blk hw 27 #[(0, x), (1, y)] ho (by simpa [hx, hy] using madeP d e) h
noncomputable def goodB (a b : Nat → Int) : Bool := dieB a && (dieB b && decide (lexI a b 6 0 ≤ 0))
def opairF (a b : Nat → Int) : Nat → Int := if 0 < lexI a b 6 0 then pairF b a else pairF a b

end Go.Proofs.Ytiibpnhjdfjdkaa
