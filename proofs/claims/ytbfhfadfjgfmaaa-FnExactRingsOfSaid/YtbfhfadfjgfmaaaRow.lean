/- Contracts of functions of this program, used by the laws of this seat. No condition beyond what each theorem states. -/
import Derived.Test.YtbfhfadfjgfmaaaPools
set_option linter.unusedVariables false
set_option linter.unusedSimpArgs false
set_option linter.unusedSectionVars false
namespace Go.Proofs.Ytbfhfadfjgfmaaa
open Go.RowKit
noncomputable def rowB (n : Nat) (x : Nat → Nat → Int) : Bool := (decide ((1 : Int) ≤ (n : Int)) && decide ((n : Int) ≤ 6)) && allB (fun i => dieB (x i)) n

theorem l3Row_any (o : Option Addr) (n c : Nat) (x : Nat → Nat → Int) (hn : n ≤ 1048576) (w : World) (h : PoolAt w o n x) : Calls Try.prog 64 #[poolV o n c] w fun e w' => e = .returned (.bool (rowB n x)) ∧ Below w.heap.size w w' := by
  have H := Lib.hid h; clear h
  go_enter Try.func64, Try.ntmps64
  go_wp2
  go_loopw [3] (fun i wr => ∃ k : Nat, k ≤ n ∧ k ≤ 7 ∧ i = .int .i64 k ∧ Hid (∀ j, j < k → dieB (x j) = true) ∧ Below w.heap.size w wr) (fun i _ => 8 - (intOf i).toNat)
  case atStart => exact ⟨0, by omega, by omega, rfl, (fun j hj => by omega), Below.refl _ _⟩
  case round =>
    obtain ⟨k, hk, hk7, rfl, HO, hb⟩ := hrel
    have HB := Lib.hid hb
    by_cases hlt : k < n
    · have d1 : decide ((k : Int) < (n : Int)) = true := by simp; omega
      by_cases h4 : k ≤ 6
      · have d2 : decide ((k : Int) ≤ 6) = true := by simp; omega
        obtain ⟨a, rfl, ha, hc⟩ := H.out.below hb k hlt
        have HC := Lib.hid hc
        clear hc hb ha
        cases g : dieB (x k)
        · have F := Lib.hid (show rowB n x = false by unfold rowB; rw [allB_false hlt g, Bool.and_false])
          go_wp2_with (first | (refine wpList_load_cells rfl 53 _ rfl rfl (HC.out) Try.isAgg53 sz6 ?_) | fail)
          go_at_call 83
          refine (l2Die_any (x k) _).mono ?_
          rintro e w1 ⟨rfl, hb1⟩
          have HB1 := Lib.hid (HB.out.trans (hb1.mono HB.out.size)); clear hb1
          rw [g]
          go_wp2
          go_ret
          exact ⟨by (rw [F.out]) <;> rfl, HB1.out⟩
        · have G : Hid (∀ j, j < k + 1 → dieB (x j) = true) := fun j hj => if e : j = k then e ▸ g else HO.out j (by omega)
          go_wp2_with (first | (refine wpList_load_cells rfl 53 _ rfl rfl (HC.out) Try.isAgg53 sz6 ?_) | fail)
          go_at_call 83
          refine (l2Die_any (x k) _).mono ?_
          rintro e w1 ⟨rfl, hb1⟩
          have HB1 := Lib.hid (HB.out.trans (hb1.mono HB.out.size)); clear hb1
          rw [g]
          clear g
          go_wp2
          go_roundw
          case rel => exact ⟨k + 1, by omega, by omega, by go_num, G, HB1.out⟩
          case measure => simp [intOf]; omega
      · have d2 : decide ((k : Int) ≤ 6) = false := by simp; omega
        have F := Lib.hid (show rowB n x = (decide ((1 : Int) ≤ (n : Int)) && decide ((n : Int) ≤ 6)) by unfold rowB; rw [show decide ((n : Int) ≤ 6) = false by simp; omega]; simp)
        clear hb
        go_wp2_with (first | (go_at_call 84; refine (in_any _ _ _ _).mono ?_; rintro e w' ⟨rfl, rfl⟩) | fail)
        go_ret
        exact ⟨by (rw [F.out]) <;> rfl, HB.out⟩
    · have d1 : decide ((k : Int) < (n : Int)) = false := by simp; omega
      have F := Lib.hid (show rowB n x = (decide ((1 : Int) ≤ (n : Int)) && decide ((n : Int) ≤ 6)) by
        unfold rowB; rw [(allB_iff (fun i => dieB (x i)) n).2 (fun j hj => HO.out j (by omega)), Bool.and_true])
      clear hb
      go_wp2_with (first | (go_at_call 84; refine (in_any _ _ _ _).mono ?_; rintro e w' ⟨rfl, rfl⟩) | fail)
      go_ret
      exact ⟨by (rw [F.out]) <;> rfl, HB.out⟩
theorem isRow_any (o : Option Addr) (n c : Nat) (x : Nat → Nat → Int) (hn : n ≤ 1048576) (w : World) (h : PoolAt w o n x) : Calls Try.prog 66 #[poolV o n c] w fun e w' => e = .returned (.bool (rowB n x)) ∧ Below w.heap.size w w' := by
  have H := Lib.hid h; clear h
  unfold rowB
  cases g : (decide ((1 : Int) ≤ (n : Int)) && decide ((n : Int) ≤ 6))
  · go_enter Try.func66, Try.ntmps66
    go_wp2_with fail
    go_at_call 85
    refine (within_any _ _ _ _).mono ?_
    rintro e w' ⟨rfl, rfl⟩
    rw [g]
    go_wp2
    go_ret
    exact ⟨rfl, Below.refl _ _⟩
  · go_enter Try.func66, Try.ntmps66
    go_wp2_with fail
    go_at_call 85
    refine (within_any _ _ _ _).mono ?_
    rintro e w' ⟨rfl, rfl⟩
    rw [g]
    go_wp2_with fail
    go_at_call 86
    refine (areDice_any o n c x hn _ H.out).mono ?_
    rintro e w1 ⟨rfl, hb1⟩
    have HB1 := Lib.hid hb1; clear hb1
    go_wp2
    go_ret
    exact ⟨by simp, HB1.out⟩
theorem row_le {n : Nat} {x : Nat → Nat → Int} (h : rowB n x = true) : 1 ≤ n ∧ n ≤ 6 := by
  unfold rowB at h
  simp only [Bool.and_eq_true, decide_eq_true_eq] at h
  omega
end Go.Proofs.Ytbfhfadfjgfmaaa
