/- SplitString, both sides. -/
import Derived.Test.YthjfnfhadgmglaaDoorSplt
import Derived.Test.YthjfnfhadgmglaaDoorSplS
set_option linter.unusedVariables false
set_option linter.unusedSimpArgs false
set_option linter.unusedSectionVars false
namespace Go.Proofs.YthjfnfhadgmglaaDoor
open Go.RowKit
/-- Is the text to be split? -/
def splB (s sep : ByteArray) : Bool := decide (s.size ≤ 4000) && decide (sep.size = 1)
/-- The texts that it is split into. -/
def splL (s sep : ByteArray) : List ByteArray := if splB s sep then parts (sep.data.getD 0 0) s else []
theorem sep_one {sep : ByteArray} (h : sep.size = 1) : sep = ⟨#[sep.data.getD 0 0]⟩ := by
  obtain ⟨c, rfl⟩ := Lib.one_byte sep h
  rfl
theorem splL_len (s sep : ByteArray) : (splL s sep).length ≤ 4001 := by
  unfold splL splB
  split
  · rename_i h
    simp only [Bool.and_eq_true, decide_eq_true_eq] at h
    have := parts_len_le (sep.data.getD 0 0) s
    omega
  · simp
theorem strs_row (l : List ByteArray) : row l.length (fun i => .string (atS l i)) = (l.map Value.string).toArray := by
  unfold row
  congr 1
  apply List.ext_getElem
  · simp
  · intro i h1 h2
    simp at h1
    simp [atS, h1]
set_option maxHeartbeats 1000000 in
theorem sSplitString_any (s sep : ByteArray) (w : World) : Calls Tryd.prog 12 #[.string s, .string sep] w fun e w' => ∃ A cp, e = .returned (.tuple #[.slice A (splL s sep).length cp, .bool (splB s sep)]) ∧ Strs w' w.heap.size A (splL s sep).length cp (atS (splL s sep)) ∧ Below w.heap.size w w' := by
  by_cases h1 : sep.size = 1
  · obtain ⟨c, rfl⟩ := Lib.one_byte sep h1
    by_cases h2 : s.size ≤ 4000
    · have G := Lib.hid (show splB s ⟨#[c]⟩ = true by unfold splB; rw [decide_eq_true h2]; rfl)
      have HV := Lib.hid (show splL s ⟨#[c]⟩ = parts c s by unfold splL; rw [G.out]; rfl)
      have d1 : decide ((4000 : Int) < (s.size : Int)) = false := by simp; omega
      have HL := Lib.hid (fun w => l1Split_any s c (by omega) w)
      clear h1
      go_enter Tryd.func12, Tryd.ntmps12
      go_wp2_with fail
      go_at_call 36
      refine (HL.out _).mono ?_
      rintro e w' ⟨A, cp, rfl, hS, hb⟩
      have S1 := Lib.hid hS; have HB := Lib.hid hb
      clear hS hb
      go_wp2
      go_ret2
      exact ⟨A, cp, by rw [HV.out, G.out]; rfl, by rw [HV.out]; exact S1.out, HB.out⟩
    · have G := Lib.hid (show splB s ⟨#[c]⟩ = false by unfold splB; rw [decide_eq_false h2]; rfl)
      have HV := Lib.hid (show splL s ⟨#[c]⟩ = [] by unfold splL; rw [G.out]; rfl)
      have d1 : decide ((4000 : Int) < (s.size : Int)) = true := by simp; omega
      clear h1
      go_enter Tryd.func12, Tryd.ntmps12
      go_wp2
      go_ret2
      exact ⟨_, 0, by rw [HV.out, G.out]; rfl, by rw [HV.out]; exact Strs.empty w _ _ (Nat.le_refl _), (Below.refl _ _).alloc (Nat.le_refl _) _⟩
  · have G := Lib.hid (show splB s sep = false by unfold splB; rw [decide_eq_false h1, Bool.and_false])
    have HV := Lib.hid (show splL s sep = [] by unfold splL; rw [G.out]; rfl)
    have d1 : ((sep.size : Int) != 1) = true := by simp; omega
    go_enter Tryd.func12, Tryd.ntmps12
    go_wp2
    go_ret2
    exact ⟨_, 0, by rw [HV.out, G.out]; rfl, by rw [HV.out]; exact Strs.empty w _ _ (Nat.le_refl _), (Below.refl _ _).alloc (Nat.le_refl _) _⟩
set_option maxHeartbeats 1000000 in
theorem iSplitString_any (s sep : ByteArray) (m : Int) (w : World) (hsh : w.cell? ⟨0, 0, none⟩ = some (.int .i64 m)) : Calls Tryd.prog 13 #[.string s, .string sep] w fun e w' => ∃ A cp, e = .returned (.tuple #[.slice A (splL s sep).length cp, .bool (splB s sep)]) ∧ Strs w' w.heap.size A (splL s sep).length cp (atS (splL s sep)) ∧ Below w.heap.size w w' := by
  have HSH := Lib.hid hsh; clear hsh
  by_cases h2 : s.size ≤ 4000
  · have d1 : decide ((4000 : Int) < (s.size : Int)) = false := by simp; omega
    by_cases h1 : sep.size = 1
    · obtain ⟨c, rfl⟩ := Lib.one_byte sep h1
      have G := Lib.hid (show splB s ⟨#[c]⟩ = true by unfold splB; rw [decide_eq_true h2]; rfl)
      have HV := Lib.hid (show splL s ⟨#[c]⟩ = parts c s by unfold splL; rw [G.out]; rfl)
      have HP := Lib.hid (parts_lib c s)
      have HN := Lib.hid (parts_len c s)
      have HM := Lib.hid (parts_len_le c s)
      clear h1
      go_enter Tryd.func13, Tryd.ntmps13
      go_wp2_with fail
      go_at_call 37
      refine (Tryd.strings_Split s ⟨#[c]⟩ m _ (by omega) HSH.out (Nat.le_refl 1)).mono ?_
      rintro e w' ⟨rfl, rfl⟩
      rw [HP.out, ← HN.out]
      go_wp2
      go_ret2
      refine ⟨_, _, by rw [HV.out, G.out]; rfl, ?_, (Below.refl _ _).alloc (Nat.le_refl _) _⟩
      rw [HV.out]
      exact Strs.ofBlk (F := fun i => .string (atS (parts c s) i)) (Nat.le_refl _) (Nat.le_refl _) (by have := HM.out; unfold maxLen; omega) (Blk.newAt rfl (strs_row _)) (fun i hi => rfl)
    · have G := Lib.hid (show splB s sep = false by unfold splB; rw [decide_eq_false h1, Bool.and_false])
      have HV := Lib.hid (show splL s sep = [] by unfold splL; rw [G.out]; rfl)
      have d2 : ((sep.size : Int) != 1) = true := by simp; omega
      go_enter Tryd.func13, Tryd.ntmps13
      go_wp2
      go_ret2
      exact ⟨_, 0, by rw [HV.out, G.out]; rfl, by rw [HV.out]; exact Strs.nil w _ _, Below.refl _ _⟩
  · have d1 : decide ((4000 : Int) < (s.size : Int)) = true := by simp; omega
    have G := Lib.hid (show splB s sep = false by unfold splB; rw [decide_eq_false h2]; rfl)
    have HV := Lib.hid (show splL s sep = [] by unfold splL; rw [G.out]; rfl)
    go_enter Tryd.func13, Tryd.ntmps13
    go_wp2
    go_ret2
    exact ⟨_, 0, by rw [HV.out, G.out]; rfl, by rw [HV.out]; exact Strs.nil w _ _, Below.refl _ _⟩
end Go.Proofs.YthjfnfhadgmglaaDoor
