/- Contracts of functions of this program, used by the laws of this seat. No condition beyond what each theorem states. -/
import Derived.Test.YtiibpnhjdfjdkaaPair2
set_option linter.unusedVariables false
set_option linter.unusedSimpArgs false
set_option linter.unusedSectionVars false
namespace Go.Proofs.Ytiibpnhjdfjdkaa
open Go.RowKit
theorem le_not (x : Int) : decide (x ≤ 0) = !decide (0 < x) := by
  by_cases h : 0 < x
  · simp [h]
  · simp [h]; omega

theorem l5Good_any (a b : Nat → Int) (w : World) : Calls Try.prog 58 #[pairV a b] w fun e w' => e = .returned (.bool (goodB a b)) ∧ Below w.heap.size w w' := by
  cases ha : dieB a
  · have hg : goodB a b = false := by simp [goodB, ha]
    rw [hg]
    go_enter Try.func58, Try.ntmps58
    go_wp2_with (first | (refine wpList_load_part rfl 22 _ rfl (Blk.new _ _ _ _) rfl (Nat.le_of_ble_eq_true rfl) Try.isAgg22 sz6 (pairA a b) ?_) | fail)
    go_at_call 90
    refine (l2Die_any a _).mono ?_
    rintro e w1 ⟨rfl, hb1⟩
    have HB1 := Lib.hid hb1; clear hb1
    have A1 := Lib.hid (show Blk w1 w.heap.size 12 27 (I (pairF a b)) from Blk.below (by (repeat (first | (with_reducible exact Blk.new _ _ _ _) | ((with_reducible refine Blk.newS ?_); (focus (first | rfl | (simp; done)))) | ((with_reducible refine Blk.setRowNew ?_); (focus (first | rfl | (simp; done)))) | ((with_reducible refine Blk.setRowOther ?_ _ _ ?_); rotate_left; (focus (first | omega | (simp; done) | (simp; omega)))) | ((with_reducible refine Blk.other ?_ _ _ ?_); rotate_left; (focus (first | omega | (simp; done) | (simp; omega)))) | (with_reducible refine Blk.alloc ?_ _) | (with_reducible refine Blk.drewN ?_ _)))) HB1.out (by (focus (first | omega | (simp; done) | (simp; omega)))))
    have HB1 := Lib.hid (Below.trans (show Below w.heap.size w _ from (by (repeat (first | (with_reducible exact Below.refl _ _) | ((with_reducible refine below_setRow ?_ ?_ _); rotate_left; (focus (first | omega | (simp; done) | (simp; omega)))) | ((with_reducible refine Below.setCell ?_ ?_ _); rotate_left; (focus (first | omega | (simp; done) | (simp; omega)))) | ((with_reducible refine Below.alloc ?_ ?_ _); rotate_left; (focus (first | omega | (simp; done) | (simp; omega)))) | (with_reducible refine below_drewN ?_ _))))) (HB1.out.mono (by (focus (first | omega | (simp; done) | (simp; omega))))))
    rw [ha]
    go_wp2
    go_ret
    exact ⟨rfl, HB1.out⟩
  · cases hb : dieB b
    · have hg : goodB a b = false := by simp [goodB, hb]
      rw [hg]
      go_enter Try.func58, Try.ntmps58
      go_wp2_with (first | (refine wpList_load_part rfl 22 _ rfl (Blk.new _ _ _ _) rfl (Nat.le_of_ble_eq_true rfl) Try.isAgg22 sz6 (pairA a b) ?_) | fail)
      go_at_call 90
      refine (l2Die_any a _).mono ?_
      rintro e w1 ⟨rfl, hb1⟩
      have HB1 := Lib.hid hb1; clear hb1
      have A1 := Lib.hid (show Blk w1 w.heap.size 12 27 (I (pairF a b)) from Blk.below (by (repeat (first | (with_reducible exact Blk.new _ _ _ _) | ((with_reducible refine Blk.newS ?_); (focus (first | rfl | (simp; done)))) | ((with_reducible refine Blk.setRowNew ?_); (focus (first | rfl | (simp; done)))) | ((with_reducible refine Blk.setRowOther ?_ _ _ ?_); rotate_left; (focus (first | omega | (simp; done) | (simp; omega)))) | ((with_reducible refine Blk.other ?_ _ _ ?_); rotate_left; (focus (first | omega | (simp; done) | (simp; omega)))) | (with_reducible refine Blk.alloc ?_ _) | (with_reducible refine Blk.drewN ?_ _)))) HB1.out (by (focus (first | omega | (simp; done) | (simp; omega)))))
      have HB1 := Lib.hid (Below.trans (show Below w.heap.size w _ from (by (repeat (first | (with_reducible exact Below.refl _ _) | ((with_reducible refine below_setRow ?_ ?_ _); rotate_left; (focus (first | omega | (simp; done) | (simp; omega)))) | ((with_reducible refine Below.setCell ?_ ?_ _); rotate_left; (focus (first | omega | (simp; done) | (simp; omega)))) | ((with_reducible refine Below.alloc ?_ ?_ _); rotate_left; (focus (first | omega | (simp; done) | (simp; omega)))) | (with_reducible refine below_drewN ?_ _))))) (HB1.out.mono (by (focus (first | omega | (simp; done) | (simp; omega))))))
      rw [ha]
      go_wp2_with (first | (refine wpList_load_part rfl 22 _ rfl (A1.out) rfl (Nat.le_of_ble_eq_true rfl) Try.isAgg22 sz6 (pairB a b) ?_) | fail)
      go_at_call 90
      refine (l2Die_any b _).mono ?_
      rintro e w2 ⟨rfl, hb2⟩
      have A2 := Lib.hid (A1.out.below hb2 A1.out.lt)
      have HB2 := Lib.hid (HB1.out.trans (hb2.mono HB1.out.size)); clear hb2
      rw [hb]
      go_wp2
      go_ret
      exact ⟨rfl, HB2.out⟩
    · have hg : goodB a b = decide (lexI a b 6 0 ≤ 0) := by simp only [goodB, ha, hb, Bool.true_and]
      rw [hg]
      go_enter Try.func58, Try.ntmps58
      go_wp2_with (first | (refine wpList_load_part rfl 22 _ rfl (Blk.new _ _ _ _) rfl (Nat.le_of_ble_eq_true rfl) Try.isAgg22 sz6 (pairA a b) ?_) | fail)
      go_at_call 90
      refine (l2Die_any a _).mono ?_
      rintro e w1 ⟨rfl, hb1⟩
      have HB1 := Lib.hid hb1; clear hb1
      have A1 := Lib.hid (show Blk w1 w.heap.size 12 27 (I (pairF a b)) from Blk.below (by (repeat (first | (with_reducible exact Blk.new _ _ _ _) | ((with_reducible refine Blk.newS ?_); (focus (first | rfl | (simp; done)))) | ((with_reducible refine Blk.setRowNew ?_); (focus (first | rfl | (simp; done)))) | ((with_reducible refine Blk.setRowOther ?_ _ _ ?_); rotate_left; (focus (first | omega | (simp; done) | (simp; omega)))) | ((with_reducible refine Blk.other ?_ _ _ ?_); rotate_left; (focus (first | omega | (simp; done) | (simp; omega)))) | (with_reducible refine Blk.alloc ?_ _) | (with_reducible refine Blk.drewN ?_ _)))) HB1.out (by (focus (first | omega | (simp; done) | (simp; omega)))))
      have HB1 := Lib.hid (Below.trans (show Below w.heap.size w _ from (by (repeat (first | (with_reducible exact Below.refl _ _) | ((with_reducible refine below_setRow ?_ ?_ _); rotate_left; (focus (first | omega | (simp; done) | (simp; omega)))) | ((with_reducible refine Below.setCell ?_ ?_ _); rotate_left; (focus (first | omega | (simp; done) | (simp; omega)))) | ((with_reducible refine Below.alloc ?_ ?_ _); rotate_left; (focus (first | omega | (simp; done) | (simp; omega)))) | (with_reducible refine below_drewN ?_ _))))) (HB1.out.mono (by (focus (first | omega | (simp; done) | (simp; omega))))))
      rw [ha]
      go_wp2_with (first | (refine wpList_load_part rfl 22 _ rfl (A1.out) rfl (Nat.le_of_ble_eq_true rfl) Try.isAgg22 sz6 (pairB a b) ?_) | fail)
      go_at_call 90
      refine (l2Die_any b _).mono ?_
      rintro e w2 ⟨rfl, hb2⟩
      have A2 := Lib.hid (A1.out.below hb2 A1.out.lt)
      have HB2 := Lib.hid (HB1.out.trans (hb2.mono HB1.out.size)); clear hb2
      rw [hb]
      clear ha hb hg
      go_wp2_with (first | (refine wpList_load_part rfl 22 _ rfl (A2.out) rfl (Nat.le_of_ble_eq_true rfl) Try.isAgg22 sz6 (pairA a b) ?_) | (refine wpList_load_part rfl 22 _ rfl (A2.out) rfl (Nat.le_of_ble_eq_true rfl) Try.isAgg22 sz6 (pairB a b) ?_) | fail)
      go_at_call 91
      refine (l2Before_any b a _).mono ?_
      rintro e w3 ⟨rfl, hb3⟩
      have HB3 := Lib.hid (HB2.out.trans (hb3.mono HB2.out.size)); clear hb3
      rw [before_ba]
      go_wp2
      go_ret
      exact ⟨by (rw [le_not]) <;> rfl, HB3.out⟩

theorem isPair_any (a b : Nat → Int) (w : World) : Calls Try.prog 61 #[pairV a b] w fun e w' => e = .returned (.bool (goodB a b)) ∧ Below w.heap.size w w' := by
  cases ha : dieB a
  · have hg : goodB a b = false := by simp [goodB, ha]
    rw [hg]
    go_enter Try.func61, Try.ntmps61
    go_wp2_with (first | (refine wpList_load_part rfl 22 _ rfl (Blk.new _ _ _ _) rfl (Nat.le_of_ble_eq_true rfl) Try.isAgg22 sz6 (pairA a b) ?_) | fail)
    go_at_call 92
    refine (isDie_any a _).mono ?_
    rintro e w1 ⟨rfl, hb1⟩
    have HB1 := Lib.hid hb1; clear hb1
    have A1 := Lib.hid (show Blk w1 w.heap.size 12 27 (I (pairF a b)) from Blk.below (by (repeat (first | (with_reducible exact Blk.new _ _ _ _) | ((with_reducible refine Blk.newS ?_); (focus (first | rfl | (simp; done)))) | ((with_reducible refine Blk.setRowNew ?_); (focus (first | rfl | (simp; done)))) | ((with_reducible refine Blk.setRowOther ?_ _ _ ?_); rotate_left; (focus (first | omega | (simp; done) | (simp; omega)))) | ((with_reducible refine Blk.other ?_ _ _ ?_); rotate_left; (focus (first | omega | (simp; done) | (simp; omega)))) | (with_reducible refine Blk.alloc ?_ _) | (with_reducible refine Blk.drewN ?_ _)))) HB1.out (by (focus (first | omega | (simp; done) | (simp; omega)))))
    have HB1 := Lib.hid (Below.trans (show Below w.heap.size w _ from (by (repeat (first | (with_reducible exact Below.refl _ _) | ((with_reducible refine below_setRow ?_ ?_ _); rotate_left; (focus (first | omega | (simp; done) | (simp; omega)))) | ((with_reducible refine Below.setCell ?_ ?_ _); rotate_left; (focus (first | omega | (simp; done) | (simp; omega)))) | ((with_reducible refine Below.alloc ?_ ?_ _); rotate_left; (focus (first | omega | (simp; done) | (simp; omega)))) | (with_reducible refine below_drewN ?_ _))))) (HB1.out.mono (by (focus (first | omega | (simp; done) | (simp; omega))))))
    rw [ha]
    go_wp2
    go_ret
    exact ⟨rfl, HB1.out⟩
  · cases hb : dieB b
    · have hg : goodB a b = false := by simp [goodB, hb]
      rw [hg]
      go_enter Try.func61, Try.ntmps61
      go_wp2_with (first | (refine wpList_load_part rfl 22 _ rfl (Blk.new _ _ _ _) rfl (Nat.le_of_ble_eq_true rfl) Try.isAgg22 sz6 (pairA a b) ?_) | fail)
      go_at_call 92
      refine (isDie_any a _).mono ?_
      rintro e w1 ⟨rfl, hb1⟩
      have HB1 := Lib.hid hb1; clear hb1
      have A1 := Lib.hid (show Blk w1 w.heap.size 12 27 (I (pairF a b)) from Blk.below (by (repeat (first | (with_reducible exact Blk.new _ _ _ _) | ((with_reducible refine Blk.newS ?_); (focus (first | rfl | (simp; done)))) | ((with_reducible refine Blk.setRowNew ?_); (focus (first | rfl | (simp; done)))) | ((with_reducible refine Blk.setRowOther ?_ _ _ ?_); rotate_left; (focus (first | omega | (simp; done) | (simp; omega)))) | ((with_reducible refine Blk.other ?_ _ _ ?_); rotate_left; (focus (first | omega | (simp; done) | (simp; omega)))) | (with_reducible refine Blk.alloc ?_ _) | (with_reducible refine Blk.drewN ?_ _)))) HB1.out (by (focus (first | omega | (simp; done) | (simp; omega)))))
      have HB1 := Lib.hid (Below.trans (show Below w.heap.size w _ from (by (repeat (first | (with_reducible exact Below.refl _ _) | ((with_reducible refine below_setRow ?_ ?_ _); rotate_left; (focus (first | omega | (simp; done) | (simp; omega)))) | ((with_reducible refine Below.setCell ?_ ?_ _); rotate_left; (focus (first | omega | (simp; done) | (simp; omega)))) | ((with_reducible refine Below.alloc ?_ ?_ _); rotate_left; (focus (first | omega | (simp; done) | (simp; omega)))) | (with_reducible refine below_drewN ?_ _))))) (HB1.out.mono (by (focus (first | omega | (simp; done) | (simp; omega))))))
      rw [ha]
      go_wp2_with (first | (refine wpList_load_part rfl 22 _ rfl (A1.out) rfl (Nat.le_of_ble_eq_true rfl) Try.isAgg22 sz6 (pairB a b) ?_) | fail)
      go_at_call 92
      refine (isDie_any b _).mono ?_
      rintro e w2 ⟨rfl, hb2⟩
      have A2 := Lib.hid (A1.out.below hb2 A1.out.lt)
      have HB2 := Lib.hid (HB1.out.trans (hb2.mono HB1.out.size)); clear hb2
      rw [hb]
      go_wp2
      go_ret
      exact ⟨rfl, HB2.out⟩
    · have hg : goodB a b = decide (lexI a b 6 0 ≤ 0) := by simp only [goodB, ha, hb, Bool.true_and]
      rw [hg]
      go_enter Try.func61, Try.ntmps61
      go_wp2_with (first | (refine wpList_load_part rfl 22 _ rfl (Blk.new _ _ _ _) rfl (Nat.le_of_ble_eq_true rfl) Try.isAgg22 sz6 (pairA a b) ?_) | fail)
      go_at_call 92
      refine (isDie_any a _).mono ?_
      rintro e w1 ⟨rfl, hb1⟩
      have HB1 := Lib.hid hb1; clear hb1
      have A1 := Lib.hid (show Blk w1 w.heap.size 12 27 (I (pairF a b)) from Blk.below (by (repeat (first | (with_reducible exact Blk.new _ _ _ _) | ((with_reducible refine Blk.newS ?_); (focus (first | rfl | (simp; done)))) | ((with_reducible refine Blk.setRowNew ?_); (focus (first | rfl | (simp; done)))) | ((with_reducible refine Blk.setRowOther ?_ _ _ ?_); rotate_left; (focus (first | omega | (simp; done) | (simp; omega)))) | ((with_reducible refine Blk.other ?_ _ _ ?_); rotate_left; (focus (first | omega | (simp; done) | (simp; omega)))) | (with_reducible refine Blk.alloc ?_ _) | (with_reducible refine Blk.drewN ?_ _)))) HB1.out (by (focus (first | omega | (simp; done) | (simp; omega)))))
      have HB1 := Lib.hid (Below.trans (show Below w.heap.size w _ from (by (repeat (first | (with_reducible exact Below.refl _ _) | ((with_reducible refine below_setRow ?_ ?_ _); rotate_left; (focus (first | omega | (simp; done) | (simp; omega)))) | ((with_reducible refine Below.setCell ?_ ?_ _); rotate_left; (focus (first | omega | (simp; done) | (simp; omega)))) | ((with_reducible refine Below.alloc ?_ ?_ _); rotate_left; (focus (first | omega | (simp; done) | (simp; omega)))) | (with_reducible refine below_drewN ?_ _))))) (HB1.out.mono (by (focus (first | omega | (simp; done) | (simp; omega))))))
      rw [ha]
      go_wp2_with (first | (refine wpList_load_part rfl 22 _ rfl (A1.out) rfl (Nat.le_of_ble_eq_true rfl) Try.isAgg22 sz6 (pairB a b) ?_) | fail)
      go_at_call 92
      refine (isDie_any b _).mono ?_
      rintro e w2 ⟨rfl, hb2⟩
      have A2 := Lib.hid (A1.out.below hb2 A1.out.lt)
      have HB2 := Lib.hid (HB1.out.trans (hb2.mono HB1.out.size)); clear hb2
      rw [hb]
      clear ha hb hg
      go_wp2_with (first | (refine wpList_load_part rfl 22 _ rfl (A2.out) rfl (Nat.le_of_ble_eq_true rfl) Try.isAgg22 sz6 (pairA a b) ?_) | (refine wpList_load_part rfl 22 _ rfl (A2.out) rfl (Nat.le_of_ble_eq_true rfl) Try.isAgg22 sz6 (pairB a b) ?_) | fail)
      go_at_call 93
      refine (compareDice_any a b _).mono ?_
      rintro e w3 ⟨rfl, hb3⟩
      have HB3 := Lib.hid (HB2.out.trans (hb3.mono HB2.out.size)); clear hb3
      go_wp2
      go_ret
      exact ⟨rfl, HB3.out⟩

end Go.Proofs.Ytiibpnhjdfjdkaa
