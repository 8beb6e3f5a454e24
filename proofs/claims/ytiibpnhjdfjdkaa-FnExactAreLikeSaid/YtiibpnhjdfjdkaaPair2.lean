/- Contracts of functions of this program, used by the laws of this seat. No condition beyond what each theorem states. -/
import Derived.Test.YtiibpnhjdfjdkaaPair
set_option linter.unusedVariables false
set_option linter.unusedSimpArgs false
set_option linter.unusedSectionVars false
namespace Go.Proofs.Ytiibpnhjdfjdkaa
open Go.RowKit
theorem before_ba (a b : Nat → Int) : decide (lexI b a 6 0 < 0) = decide (0 < lexI a b 6 0) := by rw [lexI_anti a b]; simp

noncomputable def bothP (a b : Nat → Int) : Bool := dieB a && dieB b
noncomputable def pairOfV (a b : Nat → Int) : Nat → Int := if bothP a b then opairF a b else fun _ => 0

theorem szQ : (Try.prog.info? 24).map (·.size) = some 12 := by kernel_rfl
/-! ### eqPair, toPair -/
theorem splA (a b : Nat → Int) (f : Nat → Value) : ∀ i, i < 12 → splice (splice f 0 6 (I a)) 6 6 (I b) i = I (pairF a b) i := fun i hi => by
  simp only [splice, I, pairF]
  by_cases h : i < 6
  · rw [if_neg (by omega), if_pos (by omega), if_pos h, Nat.sub_zero]
  · rw [if_pos (by omega), if_neg h]
theorem toPair_any (a b : Nat → Int) (w : World) : Calls Try.prog 17 #[pairV a b] w fun e w' => e = .returned (pairV a b) ∧ Below w.heap.size w w' := by
  go_enter Try.func17, Try.ntmps17
  go_wp2_with (first | (refine wpList_alloc_blk rfl 27 rfl zeroP ?_) | (refine wpList_load_part rfl 22 _ rfl (((Blk.new _ _ _ _).alloc _).alloc _) rfl (Nat.le_of_ble_eq_true rfl) Try.isAgg22 sz6 (pairA a b) ?_) | fail)
  go_at_call 60
  refine (toA6_any a _).mono ?_
  rintro e w1 ⟨rfl, hb1⟩
  have HB1 := Lib.hid hb1; clear hb1
  have A1 := Lib.hid (show Blk w1 w.heap.size 12 24 (I (pairF a b)) from Blk.below (by (repeat (first | (with_reducible exact Blk.new _ _ _ _) | ((with_reducible refine Blk.newS ?_); (focus (first | rfl | (simp; done)))) | ((with_reducible refine Blk.setRowNew ?_); (focus (first | rfl | (simp; done)))) | ((with_reducible refine Blk.setRowOther ?_ _ _ ?_); rotate_left; (focus (first | omega | (simp; done) | (simp; omega)))) | ((with_reducible refine Blk.other ?_ _ _ ?_); rotate_left; (focus (first | omega | (simp; done) | (simp; omega)))) | (with_reducible refine Blk.alloc ?_ _) | (with_reducible refine Blk.drewN ?_ _)))) HB1.out (by (focus (first | omega | (simp; done) | (simp; omega)))))
  have R1 := Lib.hid (show Blk w1 (w.heap.size + 1) 12 27 (I fun _ => 0) from Blk.below (by (repeat (first | (with_reducible exact Blk.new _ _ _ _) | ((with_reducible refine Blk.newS ?_); (focus (first | rfl | (simp; done)))) | ((with_reducible refine Blk.setRowNew ?_); (focus (first | rfl | (simp; done)))) | ((with_reducible refine Blk.setRowOther ?_ _ _ ?_); rotate_left; (focus (first | omega | (simp; done) | (simp; omega)))) | ((with_reducible refine Blk.other ?_ _ _ ?_); rotate_left; (focus (first | omega | (simp; done) | (simp; omega)))) | (with_reducible refine Blk.alloc ?_ _) | (with_reducible refine Blk.drewN ?_ _)))) HB1.out (by (focus (first | omega | (simp; done) | (simp; omega)))))
  have O1 := Lib.hid (show Blk w1 (w.heap.size + 1 + 1) 12 27 (I fun _ => 0) from Blk.below (by (repeat (first | (with_reducible exact Blk.new _ _ _ _) | ((with_reducible refine Blk.newS ?_); (focus (first | rfl | (simp; done)))) | ((with_reducible refine Blk.setRowNew ?_); (focus (first | rfl | (simp; done)))) | ((with_reducible refine Blk.setRowOther ?_ _ _ ?_); rotate_left; (focus (first | omega | (simp; done) | (simp; omega)))) | ((with_reducible refine Blk.other ?_ _ _ ?_); rotate_left; (focus (first | omega | (simp; done) | (simp; omega)))) | (with_reducible refine Blk.alloc ?_ _) | (with_reducible refine Blk.drewN ?_ _)))) HB1.out (by (focus (first | omega | (simp; done) | (simp; omega)))))
  have HB1 := Lib.hid (Below.trans (show Below w.heap.size w _ from (by (repeat (first | (with_reducible exact Below.refl _ _) | ((with_reducible refine below_setRow ?_ ?_ _); rotate_left; (focus (first | omega | (simp; done) | (simp; omega)))) | ((with_reducible refine Below.setCell ?_ ?_ _); rotate_left; (focus (first | omega | (simp; done) | (simp; omega)))) | ((with_reducible refine Below.alloc ?_ ?_ _); rotate_left; (focus (first | omega | (simp; done) | (simp; omega)))) | (with_reducible refine below_drewN ?_ _))))) (HB1.out.mono (by (focus (first | omega | (simp; done) | (simp; omega))))))
  go_wp2_with (first | (refine wpList_store_part rfl 22 _ _ rfl (O1.out) rfl rfl (Nat.le_of_ble_eq_true rfl) sz6 (fun _ _ => rfl) ?_) | (refine wpList_load_part rfl 22 _ rfl (A1.out.setRowOther _ _ (ne02 _)) rfl (Nat.le_of_ble_eq_true rfl) Try.isAgg22 sz6 (pairB a b) ?_) | fail)
  go_at_call 60
  refine (toA6_any b _).mono ?_
  rintro e w2 ⟨rfl, hb2⟩
  have HB2 := Lib.hid hb2; clear hb2
  have R2 := Lib.hid ((R1.out.setRowOther _ (row 12 (splice (I fun _ => 0) 0 6 (I a))) (ne01 _)).below HB2.out (by have := R1.out.lt; simp; omega))
  have O2 := Lib.hid ((O1.out.setRow (splice (I fun _ => 0) 0 6 (I a))).below HB2.out (by have := O1.out.lt; simp; omega))
  have HB2 := Lib.hid ((below_setRow HB1.out (by omega : w.heap.size ≤ w.heap.size + 1 + 1) (row 12 (splice (I fun _ => 0) 0 6 (I a)))).trans (HB2.out.mono (by have := HB1.out.size; simp; omega)))
  go_wp2_with (first | (refine wpList_store_part rfl 22 _ _ rfl (O2.out) rfl rfl (Nat.le_of_ble_eq_true rfl) sz6 (fun _ _ => rfl) ?_) | (refine wpList_load_part rfl 27 _ rfl (O2.out.setRow _) rfl (Nat.le_of_ble_eq_true rfl) Try.isAgg27 szP (fun i hi => (congrArg _ (Nat.zero_add i)).trans (splA a b _ i hi)) ?_) | (refine wpList_store_blk rfl 27 _ _ rfl (R2.out.setRowOther _ _ (ne01 _)) rfl rfl szP (fun _ _ => rfl) ?_) | fail)
  exact post_agg rfl ((R2.out.setRowOther _ _ (ne01 _)).setRow _) rfl Try.isAgg27 szP rfl ⟨rfl, below_setRow (below_setRow HB2.out (by (focus (first | omega | (simp; done) | (simp; omega)))) _) (by (focus (first | omega | (simp; done) | (simp; omega)))) _⟩

end Go.Proofs.Ytiibpnhjdfjdkaa
