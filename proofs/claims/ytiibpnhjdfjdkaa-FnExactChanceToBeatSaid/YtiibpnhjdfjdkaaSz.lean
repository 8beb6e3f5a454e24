/- The size of a pool, taken off what is left. -/
import Derived.Test.YtiibpnhjdfjdkaaPool
set_option linter.unusedVariables false
set_option linter.unusedSimpArgs false
set_option linter.unusedSectionVars false
namespace Go.Proofs.Ytiibpnhjdfjdkaa
open Go.RowKit
theorem szPool_left (o : Option Addr) (n cap : Nat) (left : Int) (hl : 0 ≤ left ∧ left ≤ 1048576) (hn : (n : Int) ≤ left) (w : World) : Calls Try.prog 19 #[poolV o n cap, .int .i64 left] w fun e w' => e = .returned (.int .i64 (left - (n : Int))) ∧ w = w' := by
  have d1 : decide (left - (n : Int) < 0) = false := by simp; omega
  obtain ⟨l1, l2⟩ := hl
  go_enter Try.func19, Try.ntmps19
  go_wp2
  go_ret
  exact ⟨rfl, rfl⟩
theorem szPool_over (o : Option Addr) (n cap : Nat) (left : Int) (hl : 0 ≤ left ∧ left ≤ 1048576) (hn : ¬ (n : Int) ≤ left) (hm : n ≤ maxLen) (w : World) : Calls Try.prog 19 #[poolV o n cap, .int .i64 left] w fun e w' => e = .returned (.int .i64 (-1)) ∧ w = w' := by
  have hm : (n : Int) ≤ 9223372036854775807 := by have : maxLen ≤ 9223372036854775807 := by decide
                                                  omega
  have d1 : decide (left - (n : Int) < 0) = true := by simp; omega
  obtain ⟨l1, l2⟩ := hl
  go_enter Try.func19, Try.ntmps19
  go_wp2
  go_ret
  exact ⟨rfl, rfl⟩
end Go.Proofs.Ytiibpnhjdfjdkaa
