/- Guards of the counts of places. -/
import Derived.Test.YtlgpejiepogopaaPool
import Derived.Test.YtlgpejiepogopaaPool2
import Derived.Test.YtlgpejiepogopaaPool3
import Derived.Test.YtlgpejiepogopaaKept
set_option linter.unusedVariables false
set_option linter.unusedSimpArgs false
set_option linter.unusedSectionVars false
namespace Go.Proofs.Ytlgpejiepogopaa
open Go.RowKit
noncomputable def keepB (n : Nat) (x : Nat → Nat → Int) (z : Int) : Bool := poolB n x && (decide ((1 : Int) ≤ z) && decide (z ≤ (n : Int)))
noncomputable def dropB (n : Nat) (x : Nat → Nat → Int) (z : Int) : Bool := poolB n x && (decide ((0 : Int) ≤ z) && decide (z ≤ (n : Int) - 1))
theorem keepB_nat {n : Nat} {z : Int} (h : (decide ((1 : Int) ≤ z) && decide (z ≤ (n : Int))) = true) : ∃ k : Nat, z = (k : Int) ∧ 1 ≤ k ∧ k ≤ n := by
  simp only [Bool.and_eq_true, decide_eq_true_eq] at h
  exact ⟨z.toNat, by omega, by omega, by omega⟩
theorem dropB_nat {n : Nat} {z : Int} (h : (decide ((0 : Int) ≤ z) && decide (z ≤ (n : Int) - 1)) = true) : ∃ k : Nat, (n : Int) - z = (k : Int) ∧ 1 ≤ k ∧ k ≤ n := by
  simp only [Bool.and_eq_true, decide_eq_true_eq] at h
  exact ⟨n - z.toNat, by omega, by omega, by omega⟩
theorem l4Keeps_any (o : Option Addr) (n c : Nat) (x : Nat → Nat → Int) (hn : n ≤ 1048576) (z : Int) (w : World) (h : PoolAt w o n x) : Calls Try.prog 81 #[poolV o n c, .int .i64 z] w fun e w' => e = .returned (.bool (keepB n x z)) ∧ Below w.heap.size w w' := by
  have H := Lib.hid h; clear h
  unfold keepB
  cases g : poolB n x
  · go_enter Try.func81, Try.ntmps81
    go_wp2_with fail
    go_at_call 75
    refine (l2Pool_any o n c x hn _ H.out).mono ?_
    rintro e w1 ⟨rfl, hb1⟩
    have HB1 := Lib.hid hb1; clear hb1
    rw [g]
    go_wp2
    go_ret
    exact ⟨rfl, HB1.out⟩
  · go_enter Try.func81, Try.ntmps81
    go_wp2_with fail
    go_at_call 75
    refine (l2Pool_any o n c x hn _ H.out).mono ?_
    rintro e w1 ⟨rfl, hb1⟩
    have HB1 := Lib.hid hb1; clear hb1
    rw [g]
    go_wp2_with (first | (go_at_call 85; refine (in_any _ _ _ _).mono ?_; rintro e w' ⟨rfl, rfl⟩) | fail)
    go_ret
    exact ⟨rfl, HB1.out⟩
theorem isCount_any (o : Option Addr) (n c : Nat) (hn : n ≤ 1048576) (z : Int) (w : World) : Calls Try.prog 83 #[poolV o n c, .int .i64 z] w fun e w' => e = .returned (.bool (decide ((1 : Int) ≤ z) && decide (z ≤ (n : Int)))) ∧ w = w' := by
  go_enter Try.func83, Try.ntmps83
  go_wp2_with (first | (go_at_call 87; refine (within_any _ _ _ _).mono ?_; rintro e w' ⟨rfl, rfl⟩) | fail)
  go_ret
  exact ⟨rfl, rfl⟩
end Go.Proofs.Ytlgpejiepogopaa
