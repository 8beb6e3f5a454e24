/- Contracts of functions of this program, used by the laws of this seat. No condition beyond what each theorem states. -/
import Derived.Test.YtmhlfpcndgoemaaPair3
import Derived.Test.YtmhlfpcndgoemaaTail
import Derived.Test.YtmhlfpcndgoemaaTurn2
set_option linter.unusedVariables false
set_option linter.unusedSimpArgs false
set_option linter.unusedSectionVars false
namespace Go.Proofs.Ytmhlfpcndgoemaa
open Go.RowKit
theorem goodA {a b : Nat → Int} (h : goodB a b = true) : dieB a = true := by unfold goodB at h; simp only [Bool.and_eq_true] at h; exact h.1
theorem goodD {a b : Nat → Int} (h : goodB a b = true) : dieB b = true := by unfold goodB at h; simp only [Bool.and_eq_true] at h; exact h.2.1
theorem pair_zero : (fun _ => 0 : Nat → Int) = pairF (fun _ => 0) (fun _ => 0) := by funext i; simp [pairF]
theorem opairF_pair (a b : Nat → Int) : ∃ x y, opairF a b = pairF x y := by
  unfold opairF
  split
  · exact ⟨b, a, rfl⟩
  · exact ⟨a, b, rfl⟩
noncomputable def shapeV (a b : Nat → Int) : Nat → Int := if goodB a b then opairF (bas a) (bas b) else fun _ => 0
noncomputable def mirrorV (a b : Nat → Int) : Nat → Int := if goodB a b then opairF (opp a) (opp b) else fun _ => 0
theorem shapeV_pair (a b : Nat → Int) : ∃ x y, shapeV a b = pairF x y := by
  unfold shapeV
  split
  · exact opairF_pair _ _
  · exact ⟨_, _, pair_zero⟩
theorem mirrorV_pair (a b : Nat → Int) : ∃ x y, mirrorV a b = pairF x y := by
  unfold mirrorV
  split
  · exact opairF_pair _ _
  · exact ⟨_, _, pair_zero⟩

theorem sShapeOf_any (a b : Nat → Int) (w : World) : Calls Try.prog 85 #[pairV a b] w fun e w' => e = .returned (.tuple #[.agg (row 12 (I (shapeV a b))), .bool (goodB a b)]) ∧ Below w.heap.size w w' := by
  cases hq : goodB a b
  · have HV := Lib.hid (show shapeV a b = fun _ => 0 by unfold shapeV; rw [hq]; rfl)
    rw [HV.out]
    go_enter Try.func85, Try.ntmps85
    go_wp2_with (first | (refine wpList_alloc_blk rfl 44 rfl zeroP ?_) | (refine wpList_load_part rfl 44 _ rfl ((Blk.new _ _ _ _).alloc _) rfl (Nat.le_of_ble_eq_true rfl) Try.isAgg44 szP (fun i _ => congrArg _ (Nat.zero_add i)) ?_) | fail)
    go_at_call 141
    refine (l5Good_any a b _).mono ?_
    rintro e w1 ⟨rfl, hb1⟩
    have HB1 := Lib.hid hb1; clear hb1
    have A1 := Lib.hid (show Blk w1 w.heap.size 12 44 (I (pairF a b)) from Blk.below (by (repeat (first | (with_reducible exact Blk.new _ _ _ _) | ((with_reducible refine Blk.newS ?_); (focus (first | rfl | (simp; done)))) | ((with_reducible refine Blk.setRowNew ?_); (focus (first | rfl | (simp; done)))) | ((with_reducible refine Blk.setRowOther ?_ _ _ ?_); rotate_left; (focus (first | omega | (simp; done) | (simp; omega)))) | ((with_reducible refine Blk.other ?_ _ _ ?_); rotate_left; (focus (first | omega | (simp; done) | (simp; omega)))) | (with_reducible refine Blk.alloc ?_ _) | (with_reducible refine Blk.drewN ?_ _)))) HB1.out (by (focus (first | omega | (simp; done) | (simp; omega)))))
    have R1 := Lib.hid (show Blk w1 (w.heap.size + 1) 12 44 (I fun _ => 0) from Blk.below (by (repeat (first | (with_reducible exact Blk.new _ _ _ _) | ((with_reducible refine Blk.newS ?_); (focus (first | rfl | (simp; done)))) | ((with_reducible refine Blk.setRowNew ?_); (focus (first | rfl | (simp; done)))) | ((with_reducible refine Blk.setRowOther ?_ _ _ ?_); rotate_left; (focus (first | omega | (simp; done) | (simp; omega)))) | ((with_reducible refine Blk.other ?_ _ _ ?_); rotate_left; (focus (first | omega | (simp; done) | (simp; omega)))) | (with_reducible refine Blk.alloc ?_ _) | (with_reducible refine Blk.drewN ?_ _)))) HB1.out (by (focus (first | omega | (simp; done) | (simp; omega)))))
    have HB1 := Lib.hid (Below.trans (show Below w.heap.size w _ from (by (repeat (first | (with_reducible exact Below.refl _ _) | ((with_reducible refine below_setRow ?_ ?_ _); rotate_left; (focus (first | omega | (simp; done) | (simp; omega)))) | ((with_reducible refine Below.setCell ?_ ?_ _); rotate_left; (focus (first | omega | (simp; done) | (simp; omega)))) | ((with_reducible refine Below.alloc ?_ ?_ _); rotate_left; (focus (first | omega | (simp; done) | (simp; omega)))) | (with_reducible refine below_drewN ?_ _))))) (HB1.out.mono (by (focus (first | omega | (simp; done) | (simp; omega))))))
    rw [hq]
    go_wp2_with (first | (refine wpList_build0_blk rfl 44 rfl builtP ?_) | (refine wpList_store_blk rfl 44 _ _ rfl (R1.out) rfl rfl szP (fun _ _ => rfl) ?_) | fail)
    exact post_agg_tmp rfl (R1.out.setRow _) rfl Try.isAgg44 szP rfl ⟨rfl, below_setRow HB1.out (by (focus (first | omega | (simp; done) | (simp; omega)))) _⟩
  · have HV := Lib.hid (show shapeV a b = opairF (bas a) (bas b) by unfold shapeV; rw [hq]; rfl)
    have HA := Lib.hid (small_of (goodA hq))
    have HC := Lib.hid (small_of (goodD hq))
    rw [HV.out]
    go_enter Try.func85, Try.ntmps85
    go_wp2_with (first | (refine wpList_alloc_blk rfl 44 rfl zeroP ?_) | (refine wpList_load_part rfl 44 _ rfl ((Blk.new _ _ _ _).alloc _) rfl (Nat.le_of_ble_eq_true rfl) Try.isAgg44 szP (fun i _ => congrArg _ (Nat.zero_add i)) ?_) | fail)
    go_at_call 141
    refine (l5Good_any a b _).mono ?_
    rintro e w1 ⟨rfl, hb1⟩
    have HB1 := Lib.hid hb1; clear hb1
    have A1 := Lib.hid (show Blk w1 w.heap.size 12 44 (I (pairF a b)) from Blk.below (by (repeat (first | (with_reducible exact Blk.new _ _ _ _) | ((with_reducible refine Blk.newS ?_); (focus (first | rfl | (simp; done)))) | ((with_reducible refine Blk.setRowNew ?_); (focus (first | rfl | (simp; done)))) | ((with_reducible refine Blk.setRowOther ?_ _ _ ?_); rotate_left; (focus (first | omega | (simp; done) | (simp; omega)))) | ((with_reducible refine Blk.other ?_ _ _ ?_); rotate_left; (focus (first | omega | (simp; done) | (simp; omega)))) | (with_reducible refine Blk.alloc ?_ _) | (with_reducible refine Blk.drewN ?_ _)))) HB1.out (by (focus (first | omega | (simp; done) | (simp; omega)))))
    have R1 := Lib.hid (show Blk w1 (w.heap.size + 1) 12 44 (I fun _ => 0) from Blk.below (by (repeat (first | (with_reducible exact Blk.new _ _ _ _) | ((with_reducible refine Blk.newS ?_); (focus (first | rfl | (simp; done)))) | ((with_reducible refine Blk.setRowNew ?_); (focus (first | rfl | (simp; done)))) | ((with_reducible refine Blk.setRowOther ?_ _ _ ?_); rotate_left; (focus (first | omega | (simp; done) | (simp; omega)))) | ((with_reducible refine Blk.other ?_ _ _ ?_); rotate_left; (focus (first | omega | (simp; done) | (simp; omega)))) | (with_reducible refine Blk.alloc ?_ _) | (with_reducible refine Blk.drewN ?_ _)))) HB1.out (by (focus (first | omega | (simp; done) | (simp; omega)))))
    have HB1 := Lib.hid (Below.trans (show Below w.heap.size w _ from (by (repeat (first | (with_reducible exact Below.refl _ _) | ((with_reducible refine below_setRow ?_ ?_ _); rotate_left; (focus (first | omega | (simp; done) | (simp; omega)))) | ((with_reducible refine Below.setCell ?_ ?_ _); rotate_left; (focus (first | omega | (simp; done) | (simp; omega)))) | ((with_reducible refine Below.alloc ?_ ?_ _); rotate_left; (focus (first | omega | (simp; done) | (simp; omega)))) | (with_reducible refine below_drewN ?_ _))))) (HB1.out.mono (by (focus (first | omega | (simp; done) | (simp; omega))))))
    rw [hq]
    clear hq
    go_wp2
    refine wp_region_grown_tail 7 (by kernel_rfl) (by kernel_rfl) ?_
    simp only [List.take_succ_cons, List.take_zero, List.drop_succ_cons, List.drop_zero]
    repeat (first | go_big_quiet_skip | (go_big_quiet_want; (first | (refine grown_load_part 22 _ rfl (A1.out) rfl (Nat.le_of_ble_eq_true rfl) Try.isAgg22 sz6 (pairA a b) ?_; simp only [Act.put, List.setIfInBounds_toArray, List.set_cons_succ, List.set_cons_zero]; go_big_quiet_on) | (refine grown_load_part 22 _ rfl (A1.out) rfl (Nat.le_of_ble_eq_true rfl) Try.isAgg22 sz6 (pairB a b) ?_; simp only [Act.put, List.setIfInBounds_toArray, List.set_cons_succ, List.set_cons_zero]; go_big_quiet_on) | (go_big_quiet_op; (first | go_big_quiet_on | (refine ⟨_, fun _ _ => rfl, ?_⟩; go_big_quiet_on) | (apply Exists.intro; refine ⟨fun _ hC => ?_, ?_⟩; (first | (go_at_call 137; with_reducible exact grown_of hC (l5Base_any _ HA.out _)) | (go_at_call 137; with_reducible exact grown_of hC (l5Base_any _ HC.out _)) | (go_at_call 149; exact grown_of hC (l5Pair_any _ _ _))); go_big_quiet_on))))))
    refine wpQuiet_nil ?_
    intro wg hg
    have R2 := Lib.hid (R1.out.below hg.below R1.out.lt)
    have HB2 := Lib.hid (HB1.out.trans (hg.below.mono HB1.out.size))
    clear hg
    go_wp2_with (first | (refine wpList_store_blk rfl 44 _ _ rfl (R2.out) rfl rfl szP (fun _ _ => rfl) ?_) | fail)
    exact post_agg_tmp rfl (R2.out.setRow _) rfl Try.isAgg44 szP rfl ⟨rfl, below_setRow HB2.out (by (focus (first | omega | (simp; done) | (simp; omega)))) _⟩

theorem iShapeOf_any (a b : Nat → Int) (w : World) : Calls Try.prog 86 #[pairV a b] w fun e w' => e = .returned (.tuple #[.agg (row 12 (I (shapeV a b))), .bool (goodB a b)]) ∧ Below w.heap.size w w' := by
  cases hq : goodB a b
  · have HV := Lib.hid (show shapeV a b = fun _ => 0 by unfold shapeV; rw [hq]; rfl)
    rw [HV.out]
    go_enter Try.func86, Try.ntmps86
    go_wp2_with (first | (refine wpList_alloc_blk rfl 44 rfl zeroP ?_) | (refine wpList_load_part rfl 44 _ rfl ((Blk.new _ _ _ _).alloc _) rfl (Nat.le_of_ble_eq_true rfl) Try.isAgg44 szP (fun i _ => congrArg _ (Nat.zero_add i)) ?_) | fail)
    go_at_call 60
    refine (isPair_any a b _).mono ?_
    rintro e w1 ⟨rfl, hb1⟩
    have HB1 := Lib.hid hb1; clear hb1
    have A1 := Lib.hid (show Blk w1 w.heap.size 12 44 (I (pairF a b)) from Blk.below (by (repeat (first | (with_reducible exact Blk.new _ _ _ _) | ((with_reducible refine Blk.newS ?_); (focus (first | rfl | (simp; done)))) | ((with_reducible refine Blk.setRowNew ?_); (focus (first | rfl | (simp; done)))) | ((with_reducible refine Blk.setRowOther ?_ _ _ ?_); rotate_left; (focus (first | omega | (simp; done) | (simp; omega)))) | ((with_reducible refine Blk.other ?_ _ _ ?_); rotate_left; (focus (first | omega | (simp; done) | (simp; omega)))) | (with_reducible refine Blk.alloc ?_ _) | (with_reducible refine Blk.drewN ?_ _)))) HB1.out (by (focus (first | omega | (simp; done) | (simp; omega)))))
    have R1 := Lib.hid (show Blk w1 (w.heap.size + 1) 12 44 (I fun _ => 0) from Blk.below (by (repeat (first | (with_reducible exact Blk.new _ _ _ _) | ((with_reducible refine Blk.newS ?_); (focus (first | rfl | (simp; done)))) | ((with_reducible refine Blk.setRowNew ?_); (focus (first | rfl | (simp; done)))) | ((with_reducible refine Blk.setRowOther ?_ _ _ ?_); rotate_left; (focus (first | omega | (simp; done) | (simp; omega)))) | ((with_reducible refine Blk.other ?_ _ _ ?_); rotate_left; (focus (first | omega | (simp; done) | (simp; omega)))) | (with_reducible refine Blk.alloc ?_ _) | (with_reducible refine Blk.drewN ?_ _)))) HB1.out (by (focus (first | omega | (simp; done) | (simp; omega)))))
    have HB1 := Lib.hid (Below.trans (show Below w.heap.size w _ from (by (repeat (first | (with_reducible exact Below.refl _ _) | ((with_reducible refine below_setRow ?_ ?_ _); rotate_left; (focus (first | omega | (simp; done) | (simp; omega)))) | ((with_reducible refine Below.setCell ?_ ?_ _); rotate_left; (focus (first | omega | (simp; done) | (simp; omega)))) | ((with_reducible refine Below.alloc ?_ ?_ _); rotate_left; (focus (first | omega | (simp; done) | (simp; omega)))) | (with_reducible refine below_drewN ?_ _))))) (HB1.out.mono (by (focus (first | omega | (simp; done) | (simp; omega))))))
    rw [hq]
    go_wp2_with (first | (refine wpList_build0_blk rfl 44 rfl builtP ?_) | (refine wpList_store_blk rfl 44 _ _ rfl (R1.out) rfl rfl szP (fun _ _ => rfl) ?_) | fail)
    exact post_agg_tmp rfl (R1.out.setRow _) rfl Try.isAgg44 szP rfl ⟨rfl, below_setRow HB1.out (by (focus (first | omega | (simp; done) | (simp; omega)))) _⟩
  · have HV := Lib.hid (show shapeV a b = opairF (bas a) (bas b) by unfold shapeV; rw [hq]; rfl)
    have HA := Lib.hid (small_of (goodA hq))
    have HC := Lib.hid (small_of (goodD hq))
    rw [HV.out]
    go_enter Try.func86, Try.ntmps86
    go_wp2_with (first | (refine wpList_alloc_blk rfl 44 rfl zeroP ?_) | (refine wpList_load_part rfl 44 _ rfl ((Blk.new _ _ _ _).alloc _) rfl (Nat.le_of_ble_eq_true rfl) Try.isAgg44 szP (fun i _ => congrArg _ (Nat.zero_add i)) ?_) | fail)
    go_at_call 60
    refine (isPair_any a b _).mono ?_
    rintro e w1 ⟨rfl, hb1⟩
    have HB1 := Lib.hid hb1; clear hb1
    have A1 := Lib.hid (show Blk w1 w.heap.size 12 44 (I (pairF a b)) from Blk.below (by (repeat (first | (with_reducible exact Blk.new _ _ _ _) | ((with_reducible refine Blk.newS ?_); (focus (first | rfl | (simp; done)))) | ((with_reducible refine Blk.setRowNew ?_); (focus (first | rfl | (simp; done)))) | ((with_reducible refine Blk.setRowOther ?_ _ _ ?_); rotate_left; (focus (first | omega | (simp; done) | (simp; omega)))) | ((with_reducible refine Blk.other ?_ _ _ ?_); rotate_left; (focus (first | omega | (simp; done) | (simp; omega)))) | (with_reducible refine Blk.alloc ?_ _) | (with_reducible refine Blk.drewN ?_ _)))) HB1.out (by (focus (first | omega | (simp; done) | (simp; omega)))))
    have R1 := Lib.hid (show Blk w1 (w.heap.size + 1) 12 44 (I fun _ => 0) from Blk.below (by (repeat (first | (with_reducible exact Blk.new _ _ _ _) | ((with_reducible refine Blk.newS ?_); (focus (first | rfl | (simp; done)))) | ((with_reducible refine Blk.setRowNew ?_); (focus (first | rfl | (simp; done)))) | ((with_reducible refine Blk.setRowOther ?_ _ _ ?_); rotate_left; (focus (first | omega | (simp; done) | (simp; omega)))) | ((with_reducible refine Blk.other ?_ _ _ ?_); rotate_left; (focus (first | omega | (simp; done) | (simp; omega)))) | (with_reducible refine Blk.alloc ?_ _) | (with_reducible refine Blk.drewN ?_ _)))) HB1.out (by (focus (first | omega | (simp; done) | (simp; omega)))))
    have HB1 := Lib.hid (Below.trans (show Below w.heap.size w _ from (by (repeat (first | (with_reducible exact Below.refl _ _) | ((with_reducible refine below_setRow ?_ ?_ _); rotate_left; (focus (first | omega | (simp; done) | (simp; omega)))) | ((with_reducible refine Below.setCell ?_ ?_ _); rotate_left; (focus (first | omega | (simp; done) | (simp; omega)))) | ((with_reducible refine Below.alloc ?_ ?_ _); rotate_left; (focus (first | omega | (simp; done) | (simp; omega)))) | (with_reducible refine below_drewN ?_ _))))) (HB1.out.mono (by (focus (first | omega | (simp; done) | (simp; omega))))))
    rw [hq]
    clear hq
    go_wp2
    refine wp_region_grown_tail 7 (by kernel_rfl) (by kernel_rfl) ?_
    simp only [List.take_succ_cons, List.take_zero, List.drop_succ_cons, List.drop_zero]
    repeat (first | go_big_quiet_skip | (go_big_quiet_want; (first | (refine grown_load_part 22 _ rfl (A1.out) rfl (Nat.le_of_ble_eq_true rfl) Try.isAgg22 sz6 (pairA a b) ?_; simp only [Act.put, List.setIfInBounds_toArray, List.set_cons_succ, List.set_cons_zero]; go_big_quiet_on) | (refine grown_load_part 22 _ rfl (A1.out) rfl (Nat.le_of_ble_eq_true rfl) Try.isAgg22 sz6 (pairB a b) ?_; simp only [Act.put, List.setIfInBounds_toArray, List.set_cons_succ, List.set_cons_zero]; go_big_quiet_on) | (go_big_quiet_op; (first | go_big_quiet_on | (refine ⟨_, fun _ _ => rfl, ?_⟩; go_big_quiet_on) | (apply Exists.intro; refine ⟨fun _ hC => ?_, ?_⟩; (first | (go_at_call 138; with_reducible exact grown_of hC (base_any _ HA.out _)) | (go_at_call 138; with_reducible exact grown_of hC (base_any _ HC.out _)) | (go_at_call 150; exact grown_of hC (pairOf_any _ _ _))); go_big_quiet_on))))))
    refine wpQuiet_nil ?_
    intro wg hg
    have R2 := Lib.hid (R1.out.below hg.below R1.out.lt)
    have HB2 := Lib.hid (HB1.out.trans (hg.below.mono HB1.out.size))
    clear hg
    go_wp2_with (first | (refine wpList_store_blk rfl 44 _ _ rfl (R2.out) rfl rfl szP (fun _ _ => rfl) ?_) | fail)
    exact post_agg_tmp rfl (R2.out.setRow _) rfl Try.isAgg44 szP rfl ⟨rfl, below_setRow HB2.out (by (focus (first | omega | (simp; done) | (simp; omega)))) _⟩

theorem iMirrorPair_any (a b : Nat → Int) (w : World) : Calls Try.prog 92 #[pairV a b] w fun e w' => e = .returned (.tuple #[.agg (row 12 (I (mirrorV a b))), .bool (goodB a b)]) ∧ Below w.heap.size w w' := by
  cases hq : goodB a b
  · have HV := Lib.hid (show mirrorV a b = fun _ => 0 by unfold mirrorV; rw [hq]; rfl)
    rw [HV.out]
    go_enter Try.func92, Try.ntmps92
    go_wp2_with (first | (refine wpList_alloc_blk rfl 44 rfl zeroP ?_) | (refine wpList_load_part rfl 44 _ rfl ((Blk.new _ _ _ _).alloc _) rfl (Nat.le_of_ble_eq_true rfl) Try.isAgg44 szP (fun i _ => congrArg _ (Nat.zero_add i)) ?_) | fail)
    go_at_call 60
    refine (isPair_any a b _).mono ?_
    rintro e w1 ⟨rfl, hb1⟩
    have HB1 := Lib.hid hb1; clear hb1
    have A1 := Lib.hid (show Blk w1 w.heap.size 12 44 (I (pairF a b)) from Blk.below (by (repeat (first | (with_reducible exact Blk.new _ _ _ _) | ((with_reducible refine Blk.newS ?_); (focus (first | rfl | (simp; done)))) | ((with_reducible refine Blk.setRowNew ?_); (focus (first | rfl | (simp; done)))) | ((with_reducible refine Blk.setRowOther ?_ _ _ ?_); rotate_left; (focus (first | omega | (simp; done) | (simp; omega)))) | ((with_reducible refine Blk.other ?_ _ _ ?_); rotate_left; (focus (first | omega | (simp; done) | (simp; omega)))) | (with_reducible refine Blk.alloc ?_ _) | (with_reducible refine Blk.drewN ?_ _)))) HB1.out (by (focus (first | omega | (simp; done) | (simp; omega)))))
    have R1 := Lib.hid (show Blk w1 (w.heap.size + 1) 12 44 (I fun _ => 0) from Blk.below (by (repeat (first | (with_reducible exact Blk.new _ _ _ _) | ((with_reducible refine Blk.newS ?_); (focus (first | rfl | (simp; done)))) | ((with_reducible refine Blk.setRowNew ?_); (focus (first | rfl | (simp; done)))) | ((with_reducible refine Blk.setRowOther ?_ _ _ ?_); rotate_left; (focus (first | omega | (simp; done) | (simp; omega)))) | ((with_reducible refine Blk.other ?_ _ _ ?_); rotate_left; (focus (first | omega | (simp; done) | (simp; omega)))) | (with_reducible refine Blk.alloc ?_ _) | (with_reducible refine Blk.drewN ?_ _)))) HB1.out (by (focus (first | omega | (simp; done) | (simp; omega)))))
    have HB1 := Lib.hid (Below.trans (show Below w.heap.size w _ from (by (repeat (first | (with_reducible exact Below.refl _ _) | ((with_reducible refine below_setRow ?_ ?_ _); rotate_left; (focus (first | omega | (simp; done) | (simp; omega)))) | ((with_reducible refine Below.setCell ?_ ?_ _); rotate_left; (focus (first | omega | (simp; done) | (simp; omega)))) | ((with_reducible refine Below.alloc ?_ ?_ _); rotate_left; (focus (first | omega | (simp; done) | (simp; omega)))) | (with_reducible refine below_drewN ?_ _))))) (HB1.out.mono (by (focus (first | omega | (simp; done) | (simp; omega))))))
    rw [hq]
    go_wp2_with (first | (refine wpList_build0_blk rfl 44 rfl builtP ?_) | (refine wpList_store_blk rfl 44 _ _ rfl (R1.out) rfl rfl szP (fun _ _ => rfl) ?_) | fail)
    exact post_agg_tmp rfl (R1.out.setRow _) rfl Try.isAgg44 szP rfl ⟨rfl, below_setRow HB1.out (by (focus (first | omega | (simp; done) | (simp; omega)))) _⟩
  · have HV := Lib.hid (show mirrorV a b = opairF (opp a) (opp b) by unfold mirrorV; rw [hq]; rfl)
    have HA := Lib.hid (small_of (goodA hq))
    have HC := Lib.hid (small_of (goodD hq))
    rw [HV.out]
    go_enter Try.func92, Try.ntmps92
    go_wp2_with (first | (refine wpList_alloc_blk rfl 44 rfl zeroP ?_) | (refine wpList_load_part rfl 44 _ rfl ((Blk.new _ _ _ _).alloc _) rfl (Nat.le_of_ble_eq_true rfl) Try.isAgg44 szP (fun i _ => congrArg _ (Nat.zero_add i)) ?_) | fail)
    go_at_call 60
    refine (isPair_any a b _).mono ?_
    rintro e w1 ⟨rfl, hb1⟩
    have HB1 := Lib.hid hb1; clear hb1
    have A1 := Lib.hid (show Blk w1 w.heap.size 12 44 (I (pairF a b)) from Blk.below (by (repeat (first | (with_reducible exact Blk.new _ _ _ _) | ((with_reducible refine Blk.newS ?_); (focus (first | rfl | (simp; done)))) | ((with_reducible refine Blk.setRowNew ?_); (focus (first | rfl | (simp; done)))) | ((with_reducible refine Blk.setRowOther ?_ _ _ ?_); rotate_left; (focus (first | omega | (simp; done) | (simp; omega)))) | ((with_reducible refine Blk.other ?_ _ _ ?_); rotate_left; (focus (first | omega | (simp; done) | (simp; omega)))) | (with_reducible refine Blk.alloc ?_ _) | (with_reducible refine Blk.drewN ?_ _)))) HB1.out (by (focus (first | omega | (simp; done) | (simp; omega)))))
    have R1 := Lib.hid (show Blk w1 (w.heap.size + 1) 12 44 (I fun _ => 0) from Blk.below (by (repeat (first | (with_reducible exact Blk.new _ _ _ _) | ((with_reducible refine Blk.newS ?_); (focus (first | rfl | (simp; done)))) | ((with_reducible refine Blk.setRowNew ?_); (focus (first | rfl | (simp; done)))) | ((with_reducible refine Blk.setRowOther ?_ _ _ ?_); rotate_left; (focus (first | omega | (simp; done) | (simp; omega)))) | ((with_reducible refine Blk.other ?_ _ _ ?_); rotate_left; (focus (first | omega | (simp; done) | (simp; omega)))) | (with_reducible refine Blk.alloc ?_ _) | (with_reducible refine Blk.drewN ?_ _)))) HB1.out (by (focus (first | omega | (simp; done) | (simp; omega)))))
    have HB1 := Lib.hid (Below.trans (show Below w.heap.size w _ from (by (repeat (first | (with_reducible exact Below.refl _ _) | ((with_reducible refine below_setRow ?_ ?_ _); rotate_left; (focus (first | omega | (simp; done) | (simp; omega)))) | ((with_reducible refine Below.setCell ?_ ?_ _); rotate_left; (focus (first | omega | (simp; done) | (simp; omega)))) | ((with_reducible refine Below.alloc ?_ ?_ _); rotate_left; (focus (first | omega | (simp; done) | (simp; omega)))) | (with_reducible refine below_drewN ?_ _))))) (HB1.out.mono (by (focus (first | omega | (simp; done) | (simp; omega))))))
    rw [hq]
    clear hq
    go_wp2
    refine wp_region_grown_tail 7 (by kernel_rfl) (by kernel_rfl) ?_
    simp only [List.take_succ_cons, List.take_zero, List.drop_succ_cons, List.drop_zero]
    repeat (first | go_big_quiet_skip | (go_big_quiet_want; (first | (refine grown_load_part 22 _ rfl (A1.out) rfl (Nat.le_of_ble_eq_true rfl) Try.isAgg22 sz6 (pairA a b) ?_; simp only [Act.put, List.setIfInBounds_toArray, List.set_cons_succ, List.set_cons_zero]; go_big_quiet_on) | (refine grown_load_part 22 _ rfl (A1.out) rfl (Nat.le_of_ble_eq_true rfl) Try.isAgg22 sz6 (pairB a b) ?_; simp only [Act.put, List.setIfInBounds_toArray, List.set_cons_succ, List.set_cons_zero]; go_big_quiet_on) | (go_big_quiet_op; (first | go_big_quiet_on | (refine ⟨_, fun _ _ => rfl, ?_⟩; go_big_quiet_on) | (apply Exists.intro; refine ⟨fun _ hC => ?_, ?_⟩; (first | (go_at_call 133; with_reducible exact grown_of hC (opposite_any _ HA.out _)) | (go_at_call 133; with_reducible exact grown_of hC (opposite_any _ HC.out _)) | (go_at_call 150; exact grown_of hC (pairOf_any _ _ _))); go_big_quiet_on))))))
    refine wpQuiet_nil ?_
    intro wg hg
    have R2 := Lib.hid (R1.out.below hg.below R1.out.lt)
    have HB2 := Lib.hid (HB1.out.trans (hg.below.mono HB1.out.size))
    clear hg
    go_wp2_with (first | (refine wpList_store_blk rfl 44 _ _ rfl (R2.out) rfl rfl szP (fun _ _ => rfl) ?_) | fail)
    exact post_agg_tmp rfl (R2.out.setRow _) rfl Try.isAgg44 szP rfl ⟨rfl, below_setRow HB2.out (by (focus (first | omega | (simp; done) | (simp; omega)))) _⟩

end Go.Proofs.Ytmhlfpcndgoemaa
