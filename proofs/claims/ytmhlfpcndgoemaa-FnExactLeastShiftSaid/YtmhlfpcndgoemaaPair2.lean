/- Contracts of functions of this program, used by the laws of this seat. No condition beyond what each theorem states. -/
import Derived.Test.YtmhlfpcndgoemaaPair
set_option linter.unusedVariables false
set_option linter.unusedSimpArgs false
set_option linter.unusedSectionVars false
namespace Go.Proofs.Ytmhlfpcndgoemaa
open Go.RowKit
theorem before_ba (a b : Nat → Int) : decide (lexI b a 6 0 < 0) = decide (0 < lexI a b 6 0) := by rw [lexI_anti a b]; simp

theorem l5Pair_any (a b : Nat → Int) (w : World) : Calls Try.prog 149 #[dieV a, dieV b] w fun e w' => e = .returned (.agg (row 12 (I (opairF a b)))) ∧ Below w.heap.size w w' := by
  unfold opairF
  cases g : decide (0 < lexI a b 6 0)
  all_goals
    first | rw [if_pos (of_decide_eq_true g)] | rw [if_neg (of_decide_eq_false g)]
    have G := Lib.hid g; clear g
    go_enter Try.func149, Try.ntmps149
    go_wp2_with (first | (refine wpList_alloc_blk rfl 44 rfl zeroP ?_) | (refine wpList_load_blk rfl 22 _ rfl (((Blk.new _ _ _ _).alloc _).alloc _) rfl Try.underlying22 sz6 ?_) | (refine wpList_load_blk rfl 22 _ rfl ((Blk.newS (b := w.heap.size + 1) (by simp)).alloc _) rfl Try.underlying22 sz6 ?_) | fail)
    go_at_call 143
    refine (l2Before_any b a _).mono ?_
    rintro e w1 ⟨rfl, hb1⟩
    have A1 := Lib.hid (show Blk w1 w.heap.size 6 22 (I a) from Blk.below (by (repeat (first | (with_reducible exact Blk.new _ _ _ _) | ((with_reducible refine Blk.newS ?_); (focus (first | rfl | (simp; done)))) | ((with_reducible refine Blk.setRowNew ?_); (focus (first | rfl | (simp; done)))) | ((with_reducible refine Blk.setRowOther ?_ _ _ ?_); rotate_left; (focus (first | omega | (simp; done) | (simp; omega)))) | ((with_reducible refine Blk.other ?_ _ _ ?_); rotate_left; (focus (first | omega | (simp; done) | (simp; omega)))) | (with_reducible refine Blk.alloc ?_ _) | (with_reducible refine Blk.drewN ?_ _)))) hb1 (by (focus (first | omega | (simp; done) | (simp; omega)))))
    have B1 := Lib.hid (show Blk w1 (w.heap.size + 1) 6 22 (I b) from Blk.below (by (repeat (first | (with_reducible exact Blk.new _ _ _ _) | ((with_reducible refine Blk.newS ?_); (focus (first | rfl | (simp; done)))) | ((with_reducible refine Blk.setRowNew ?_); (focus (first | rfl | (simp; done)))) | ((with_reducible refine Blk.setRowOther ?_ _ _ ?_); rotate_left; (focus (first | omega | (simp; done) | (simp; omega)))) | ((with_reducible refine Blk.other ?_ _ _ ?_); rotate_left; (focus (first | omega | (simp; done) | (simp; omega)))) | (with_reducible refine Blk.alloc ?_ _) | (with_reducible refine Blk.drewN ?_ _)))) hb1 (by (focus (first | omega | (simp; done) | (simp; omega)))))
    have R1 := Lib.hid (show Blk w1 (w.heap.size + 1 + 1) 12 44 (I fun _ => 0) from Blk.below (by (repeat (first | (with_reducible exact Blk.new _ _ _ _) | ((with_reducible refine Blk.newS ?_); (focus (first | rfl | (simp; done)))) | ((with_reducible refine Blk.setRowNew ?_); (focus (first | rfl | (simp; done)))) | ((with_reducible refine Blk.setRowOther ?_ _ _ ?_); rotate_left; (focus (first | omega | (simp; done) | (simp; omega)))) | ((with_reducible refine Blk.other ?_ _ _ ?_); rotate_left; (focus (first | omega | (simp; done) | (simp; omega)))) | (with_reducible refine Blk.alloc ?_ _) | (with_reducible refine Blk.drewN ?_ _)))) hb1 (by (focus (first | omega | (simp; done) | (simp; omega)))))
    have HB1 := Lib.hid (Below.trans (show Below w.heap.size w _ from (by (repeat (first | (with_reducible exact Below.refl _ _) | ((with_reducible refine below_setRow ?_ ?_ _); rotate_left; (focus (first | omega | (simp; done) | (simp; omega)))) | ((with_reducible refine Below.setCell ?_ ?_ _); rotate_left; (focus (first | omega | (simp; done) | (simp; omega)))) | ((with_reducible refine Below.alloc ?_ ?_ _); rotate_left; (focus (first | omega | (simp; done) | (simp; omega)))) | (with_reducible refine below_drewN ?_ _))))) (hb1.mono (by (focus (first | omega | (simp; done) | (simp; omega))))))
    clear hb1
    rw [before_ba, G.out]
    go_wp2_with (first | (((with_reducible apply wpList_pair); (case hw => rfl); (case ho => rfl); (case hx => rfl); (case hy => rfl))) | (refine wpList_load_blk rfl 22 _ rfl (A1.out) rfl Try.underlying22 sz6 ?_) | (refine wpList_load_blk rfl 22 _ rfl (B1.out) rfl Try.underlying22 sz6 ?_) | (refine wpList_store_blk rfl 44 _ _ rfl (R1.out) rfl rfl szP (fun _ _ => rfl) ?_) | fail)
    exact post_agg rfl (R1.out.setRow _) rfl Try.isAgg44 szP rfl ⟨rfl, below_setRow HB1.out (by (focus (first | omega | (simp; done) | (simp; omega)))) _⟩

noncomputable def bothP (a b : Nat → Int) : Bool := dieB a && dieB b
noncomputable def pairOfV (a b : Nat → Int) : Nat → Int := if bothP a b then opairF a b else fun _ => 0

theorem sPairOf_any (a b : Nat → Int) (w : World) : Calls Try.prog 72 #[dieV a, dieV b] w fun x w' => x = .returned (.tuple #[.agg (row 12 (I (pairOfV a b))), .bool (bothP a b)]) ∧ Below w.heap.size w w' := by
  cases ha : dieB a
  · have hb : bothP a b = false := by simp [bothP, ha]
    have HV := Lib.hid (show pairOfV a b = fun _ => 0 by unfold pairOfV; rw [hb]; rfl)
    rw [HV.out, hb]
    go_enter Try.func72, Try.ntmps72
    go_wp2_with (first | (refine wpList_alloc_blk rfl 44 rfl zeroP ?_) | (refine wpList_load_blk rfl 22 _ rfl (((Blk.new _ _ _ _).alloc _).alloc _) rfl Try.underlying22 sz6 ?_) | fail)
    go_at_call 129
    refine (l2Die_any a _).mono ?_
    rintro e w1 ⟨rfl, hb1⟩
    have HB1 := Lib.hid hb1; clear hb1
    have A1 := Lib.hid (show Blk w1 w.heap.size 6 22 (I a) from Blk.below (by (repeat (first | (with_reducible exact Blk.new _ _ _ _) | ((with_reducible refine Blk.newS ?_); (focus (first | rfl | (simp; done)))) | ((with_reducible refine Blk.setRowNew ?_); (focus (first | rfl | (simp; done)))) | ((with_reducible refine Blk.setRowOther ?_ _ _ ?_); rotate_left; (focus (first | omega | (simp; done) | (simp; omega)))) | ((with_reducible refine Blk.other ?_ _ _ ?_); rotate_left; (focus (first | omega | (simp; done) | (simp; omega)))) | (with_reducible refine Blk.alloc ?_ _) | (with_reducible refine Blk.drewN ?_ _)))) HB1.out (by (focus (first | omega | (simp; done) | (simp; omega)))))
    have B1 := Lib.hid (show Blk w1 (w.heap.size + 1) 6 22 (I b) from Blk.below (by (repeat (first | (with_reducible exact Blk.new _ _ _ _) | ((with_reducible refine Blk.newS ?_); (focus (first | rfl | (simp; done)))) | ((with_reducible refine Blk.setRowNew ?_); (focus (first | rfl | (simp; done)))) | ((with_reducible refine Blk.setRowOther ?_ _ _ ?_); rotate_left; (focus (first | omega | (simp; done) | (simp; omega)))) | ((with_reducible refine Blk.other ?_ _ _ ?_); rotate_left; (focus (first | omega | (simp; done) | (simp; omega)))) | (with_reducible refine Blk.alloc ?_ _) | (with_reducible refine Blk.drewN ?_ _)))) HB1.out (by (focus (first | omega | (simp; done) | (simp; omega)))))
    have R1 := Lib.hid (show Blk w1 (w.heap.size + 1 + 1) 12 44 (I fun _ => 0) from Blk.below (by (repeat (first | (with_reducible exact Blk.new _ _ _ _) | ((with_reducible refine Blk.newS ?_); (focus (first | rfl | (simp; done)))) | ((with_reducible refine Blk.setRowNew ?_); (focus (first | rfl | (simp; done)))) | ((with_reducible refine Blk.setRowOther ?_ _ _ ?_); rotate_left; (focus (first | omega | (simp; done) | (simp; omega)))) | ((with_reducible refine Blk.other ?_ _ _ ?_); rotate_left; (focus (first | omega | (simp; done) | (simp; omega)))) | (with_reducible refine Blk.alloc ?_ _) | (with_reducible refine Blk.drewN ?_ _)))) HB1.out (by (focus (first | omega | (simp; done) | (simp; omega)))))
    have HB1 := Lib.hid (Below.trans (show Below w.heap.size w _ from (by (repeat (first | (with_reducible exact Below.refl _ _) | ((with_reducible refine below_setRow ?_ ?_ _); rotate_left; (focus (first | omega | (simp; done) | (simp; omega)))) | ((with_reducible refine Below.setCell ?_ ?_ _); rotate_left; (focus (first | omega | (simp; done) | (simp; omega)))) | ((with_reducible refine Below.alloc ?_ ?_ _); rotate_left; (focus (first | omega | (simp; done) | (simp; omega)))) | (with_reducible refine below_drewN ?_ _))))) (HB1.out.mono (by (focus (first | omega | (simp; done) | (simp; omega))))))
    rw [ha]
    go_wp2_with (first | (refine wpList_build0_blk rfl 44 rfl builtP ?_) | (refine wpList_store_blk rfl 44 _ _ rfl (R1.out) rfl rfl szP (fun _ _ => rfl) ?_) | fail)
    exact post_agg_tmp rfl (R1.out.setRow _) rfl Try.isAgg44 szP rfl ⟨rfl, below_setRow HB1.out (by (focus (first | omega | (simp; done) | (simp; omega)))) _⟩
  · cases hb : dieB b
    · have hb2 : bothP a b = false := by simp [bothP, hb]
      have HV := Lib.hid (show pairOfV a b = fun _ => 0 by unfold pairOfV; rw [hb2]; rfl)
      rw [HV.out, hb2]
      go_enter Try.func72, Try.ntmps72
      go_wp2_with (first | (refine wpList_alloc_blk rfl 44 rfl zeroP ?_) | (refine wpList_load_blk rfl 22 _ rfl (((Blk.new _ _ _ _).alloc _).alloc _) rfl Try.underlying22 sz6 ?_) | fail)
      go_at_call 129
      refine (l2Die_any a _).mono ?_
      rintro e w1 ⟨rfl, hb1⟩
      have HB1 := Lib.hid hb1; clear hb1
      have A1 := Lib.hid (show Blk w1 w.heap.size 6 22 (I a) from Blk.below (by (repeat (first | (with_reducible exact Blk.new _ _ _ _) | ((with_reducible refine Blk.newS ?_); (focus (first | rfl | (simp; done)))) | ((with_reducible refine Blk.setRowNew ?_); (focus (first | rfl | (simp; done)))) | ((with_reducible refine Blk.setRowOther ?_ _ _ ?_); rotate_left; (focus (first | omega | (simp; done) | (simp; omega)))) | ((with_reducible refine Blk.other ?_ _ _ ?_); rotate_left; (focus (first | omega | (simp; done) | (simp; omega)))) | (with_reducible refine Blk.alloc ?_ _) | (with_reducible refine Blk.drewN ?_ _)))) HB1.out (by (focus (first | omega | (simp; done) | (simp; omega)))))
      have B1 := Lib.hid (show Blk w1 (w.heap.size + 1) 6 22 (I b) from Blk.below (by (repeat (first | (with_reducible exact Blk.new _ _ _ _) | ((with_reducible refine Blk.newS ?_); (focus (first | rfl | (simp; done)))) | ((with_reducible refine Blk.setRowNew ?_); (focus (first | rfl | (simp; done)))) | ((with_reducible refine Blk.setRowOther ?_ _ _ ?_); rotate_left; (focus (first | omega | (simp; done) | (simp; omega)))) | ((with_reducible refine Blk.other ?_ _ _ ?_); rotate_left; (focus (first | omega | (simp; done) | (simp; omega)))) | (with_reducible refine Blk.alloc ?_ _) | (with_reducible refine Blk.drewN ?_ _)))) HB1.out (by (focus (first | omega | (simp; done) | (simp; omega)))))
      have R1 := Lib.hid (show Blk w1 (w.heap.size + 1 + 1) 12 44 (I fun _ => 0) from Blk.below (by (repeat (first | (with_reducible exact Blk.new _ _ _ _) | ((with_reducible refine Blk.newS ?_); (focus (first | rfl | (simp; done)))) | ((with_reducible refine Blk.setRowNew ?_); (focus (first | rfl | (simp; done)))) | ((with_reducible refine Blk.setRowOther ?_ _ _ ?_); rotate_left; (focus (first | omega | (simp; done) | (simp; omega)))) | ((with_reducible refine Blk.other ?_ _ _ ?_); rotate_left; (focus (first | omega | (simp; done) | (simp; omega)))) | (with_reducible refine Blk.alloc ?_ _) | (with_reducible refine Blk.drewN ?_ _)))) HB1.out (by (focus (first | omega | (simp; done) | (simp; omega)))))
      have HB1 := Lib.hid (Below.trans (show Below w.heap.size w _ from (by (repeat (first | (with_reducible exact Below.refl _ _) | ((with_reducible refine below_setRow ?_ ?_ _); rotate_left; (focus (first | omega | (simp; done) | (simp; omega)))) | ((with_reducible refine Below.setCell ?_ ?_ _); rotate_left; (focus (first | omega | (simp; done) | (simp; omega)))) | ((with_reducible refine Below.alloc ?_ ?_ _); rotate_left; (focus (first | omega | (simp; done) | (simp; omega)))) | (with_reducible refine below_drewN ?_ _))))) (HB1.out.mono (by (focus (first | omega | (simp; done) | (simp; omega))))))
      rw [ha]
      go_wp2_with (first | (refine wpList_load_blk rfl 22 _ rfl (B1.out) rfl Try.underlying22 sz6 ?_) | fail)
      go_at_call 129
      refine (l2Die_any b _).mono ?_
      rintro e w2 ⟨rfl, hb2⟩
      have A2 := Lib.hid (A1.out.below hb2 A1.out.lt)
      have B2 := Lib.hid (B1.out.below hb2 B1.out.lt)
      have R2 := Lib.hid (R1.out.below hb2 R1.out.lt)
      have HB2 := Lib.hid (HB1.out.trans (hb2.mono HB1.out.size)); clear hb2
      rw [hb]
      go_wp2_with (first | (refine wpList_build0_blk rfl 44 rfl builtP ?_) | (refine wpList_store_blk rfl 44 _ _ rfl (R2.out) rfl rfl szP (fun _ _ => rfl) ?_) | fail)
      exact post_agg_tmp rfl (R2.out.setRow _) rfl Try.isAgg44 szP rfl ⟨rfl, below_setRow HB2.out (by (focus (first | omega | (simp; done) | (simp; omega)))) _⟩
    · have hb2 : bothP a b = true := by simp [bothP, ha, hb]
      have HV := Lib.hid (show pairOfV a b = opairF a b by unfold pairOfV; rw [hb2]; rfl)
      rw [HV.out, hb2]
      go_enter Try.func72, Try.ntmps72
      go_wp2_with (first | (refine wpList_alloc_blk rfl 44 rfl zeroP ?_) | (refine wpList_load_blk rfl 22 _ rfl (((Blk.new _ _ _ _).alloc _).alloc _) rfl Try.underlying22 sz6 ?_) | fail)
      go_at_call 129
      refine (l2Die_any a _).mono ?_
      rintro e w1 ⟨rfl, hb1⟩
      have HB1 := Lib.hid hb1; clear hb1
      have A1 := Lib.hid (show Blk w1 w.heap.size 6 22 (I a) from Blk.below (by (repeat (first | (with_reducible exact Blk.new _ _ _ _) | ((with_reducible refine Blk.newS ?_); (focus (first | rfl | (simp; done)))) | ((with_reducible refine Blk.setRowNew ?_); (focus (first | rfl | (simp; done)))) | ((with_reducible refine Blk.setRowOther ?_ _ _ ?_); rotate_left; (focus (first | omega | (simp; done) | (simp; omega)))) | ((with_reducible refine Blk.other ?_ _ _ ?_); rotate_left; (focus (first | omega | (simp; done) | (simp; omega)))) | (with_reducible refine Blk.alloc ?_ _) | (with_reducible refine Blk.drewN ?_ _)))) HB1.out (by (focus (first | omega | (simp; done) | (simp; omega)))))
      have B1 := Lib.hid (show Blk w1 (w.heap.size + 1) 6 22 (I b) from Blk.below (by (repeat (first | (with_reducible exact Blk.new _ _ _ _) | ((with_reducible refine Blk.newS ?_); (focus (first | rfl | (simp; done)))) | ((with_reducible refine Blk.setRowNew ?_); (focus (first | rfl | (simp; done)))) | ((with_reducible refine Blk.setRowOther ?_ _ _ ?_); rotate_left; (focus (first | omega | (simp; done) | (simp; omega)))) | ((with_reducible refine Blk.other ?_ _ _ ?_); rotate_left; (focus (first | omega | (simp; done) | (simp; omega)))) | (with_reducible refine Blk.alloc ?_ _) | (with_reducible refine Blk.drewN ?_ _)))) HB1.out (by (focus (first | omega | (simp; done) | (simp; omega)))))
      have R1 := Lib.hid (show Blk w1 (w.heap.size + 1 + 1) 12 44 (I fun _ => 0) from Blk.below (by (repeat (first | (with_reducible exact Blk.new _ _ _ _) | ((with_reducible refine Blk.newS ?_); (focus (first | rfl | (simp; done)))) | ((with_reducible refine Blk.setRowNew ?_); (focus (first | rfl | (simp; done)))) | ((with_reducible refine Blk.setRowOther ?_ _ _ ?_); rotate_left; (focus (first | omega | (simp; done) | (simp; omega)))) | ((with_reducible refine Blk.other ?_ _ _ ?_); rotate_left; (focus (first | omega | (simp; done) | (simp; omega)))) | (with_reducible refine Blk.alloc ?_ _) | (with_reducible refine Blk.drewN ?_ _)))) HB1.out (by (focus (first | omega | (simp; done) | (simp; omega)))))
      have HB1 := Lib.hid (Below.trans (show Below w.heap.size w _ from (by (repeat (first | (with_reducible exact Below.refl _ _) | ((with_reducible refine below_setRow ?_ ?_ _); rotate_left; (focus (first | omega | (simp; done) | (simp; omega)))) | ((with_reducible refine Below.setCell ?_ ?_ _); rotate_left; (focus (first | omega | (simp; done) | (simp; omega)))) | ((with_reducible refine Below.alloc ?_ ?_ _); rotate_left; (focus (first | omega | (simp; done) | (simp; omega)))) | (with_reducible refine below_drewN ?_ _))))) (HB1.out.mono (by (focus (first | omega | (simp; done) | (simp; omega))))))
      rw [ha]
      go_wp2_with (first | (refine wpList_load_blk rfl 22 _ rfl (B1.out) rfl Try.underlying22 sz6 ?_) | fail)
      go_at_call 129
      refine (l2Die_any b _).mono ?_
      rintro e w2 ⟨rfl, hb2⟩
      have A2 := Lib.hid (A1.out.below hb2 A1.out.lt)
      have B2 := Lib.hid (B1.out.below hb2 B1.out.lt)
      have R2 := Lib.hid (R1.out.below hb2 R1.out.lt)
      have HB2 := Lib.hid (HB1.out.trans (hb2.mono HB1.out.size)); clear hb2
      rw [hb]
      clear ha hb hb2
      go_wp2_with (first | (refine wpList_load_blk rfl 22 _ rfl (A2.out) rfl Try.underlying22 sz6 ?_) | (refine wpList_load_blk rfl 22 _ rfl (B2.out) rfl Try.underlying22 sz6 ?_) | fail)
      go_at_call 149
      refine (l5Pair_any a b _).mono ?_
      rintro e w3 ⟨rfl, hb3⟩
      have R3 := Lib.hid (R2.out.below hb3 R2.out.lt)
      have HB3 := Lib.hid (HB2.out.trans (hb3.mono HB2.out.size)); clear hb3
      go_wp2_with (first | (refine wpList_store_blk rfl 44 _ _ rfl (R3.out) rfl rfl szP (fun _ _ => rfl) ?_) | fail)
      exact post_agg_tmp rfl (R3.out.setRow _) rfl Try.isAgg44 szP rfl ⟨rfl, below_setRow HB3.out (by (focus (first | omega | (simp; done) | (simp; omega)))) _⟩

theorem iPairOf_any (a b : Nat → Int) (w : World) : Calls Try.prog 73 #[dieV a, dieV b] w fun x w' => x = .returned (.tuple #[.agg (row 12 (I (pairOfV a b))), .bool (bothP a b)]) ∧ Below w.heap.size w w' := by
  cases ha : dieB a
  · have hb : bothP a b = false := by simp [bothP, ha]
    have HV := Lib.hid (show pairOfV a b = fun _ => 0 by unfold pairOfV; rw [hb]; rfl)
    rw [HV.out, hb]
    go_enter Try.func73, Try.ntmps73
    go_wp2_with (first | (refine wpList_alloc_blk rfl 44 rfl zeroP ?_) | (refine wpList_load_blk rfl 22 _ rfl (((Blk.new _ _ _ _).alloc _).alloc _) rfl Try.underlying22 sz6 ?_) | fail)
    go_at_call 40
    refine (isDie_any a _).mono ?_
    rintro e w1 ⟨rfl, hb1⟩
    have HB1 := Lib.hid hb1; clear hb1
    have A1 := Lib.hid (show Blk w1 w.heap.size 6 22 (I a) from Blk.below (by (repeat (first | (with_reducible exact Blk.new _ _ _ _) | ((with_reducible refine Blk.newS ?_); (focus (first | rfl | (simp; done)))) | ((with_reducible refine Blk.setRowNew ?_); (focus (first | rfl | (simp; done)))) | ((with_reducible refine Blk.setRowOther ?_ _ _ ?_); rotate_left; (focus (first | omega | (simp; done) | (simp; omega)))) | ((with_reducible refine Blk.other ?_ _ _ ?_); rotate_left; (focus (first | omega | (simp; done) | (simp; omega)))) | (with_reducible refine Blk.alloc ?_ _) | (with_reducible refine Blk.drewN ?_ _)))) HB1.out (by (focus (first | omega | (simp; done) | (simp; omega)))))
    have B1 := Lib.hid (show Blk w1 (w.heap.size + 1) 6 22 (I b) from Blk.below (by (repeat (first | (with_reducible exact Blk.new _ _ _ _) | ((with_reducible refine Blk.newS ?_); (focus (first | rfl | (simp; done)))) | ((with_reducible refine Blk.setRowNew ?_); (focus (first | rfl | (simp; done)))) | ((with_reducible refine Blk.setRowOther ?_ _ _ ?_); rotate_left; (focus (first | omega | (simp; done) | (simp; omega)))) | ((with_reducible refine Blk.other ?_ _ _ ?_); rotate_left; (focus (first | omega | (simp; done) | (simp; omega)))) | (with_reducible refine Blk.alloc ?_ _) | (with_reducible refine Blk.drewN ?_ _)))) HB1.out (by (focus (first | omega | (simp; done) | (simp; omega)))))
    have R1 := Lib.hid (show Blk w1 (w.heap.size + 1 + 1) 12 44 (I fun _ => 0) from Blk.below (by (repeat (first | (with_reducible exact Blk.new _ _ _ _) | ((with_reducible refine Blk.newS ?_); (focus (first | rfl | (simp; done)))) | ((with_reducible refine Blk.setRowNew ?_); (focus (first | rfl | (simp; done)))) | ((with_reducible refine Blk.setRowOther ?_ _ _ ?_); rotate_left; (focus (first | omega | (simp; done) | (simp; omega)))) | ((with_reducible refine Blk.other ?_ _ _ ?_); rotate_left; (focus (first | omega | (simp; done) | (simp; omega)))) | (with_reducible refine Blk.alloc ?_ _) | (with_reducible refine Blk.drewN ?_ _)))) HB1.out (by (focus (first | omega | (simp; done) | (simp; omega)))))
    have HB1 := Lib.hid (Below.trans (show Below w.heap.size w _ from (by (repeat (first | (with_reducible exact Below.refl _ _) | ((with_reducible refine below_setRow ?_ ?_ _); rotate_left; (focus (first | omega | (simp; done) | (simp; omega)))) | ((with_reducible refine Below.setCell ?_ ?_ _); rotate_left; (focus (first | omega | (simp; done) | (simp; omega)))) | ((with_reducible refine Below.alloc ?_ ?_ _); rotate_left; (focus (first | omega | (simp; done) | (simp; omega)))) | (with_reducible refine below_drewN ?_ _))))) (HB1.out.mono (by (focus (first | omega | (simp; done) | (simp; omega))))))
    rw [ha]
    go_wp2_with (first | (refine wpList_build0_blk rfl 44 rfl builtP ?_) | (refine wpList_store_blk rfl 44 _ _ rfl (R1.out) rfl rfl szP (fun _ _ => rfl) ?_) | fail)
    exact post_agg_tmp rfl (R1.out.setRow _) rfl Try.isAgg44 szP rfl ⟨rfl, below_setRow HB1.out (by (focus (first | omega | (simp; done) | (simp; omega)))) _⟩
  · cases hb : dieB b
    · have hb2 : bothP a b = false := by simp [bothP, hb]
      have HV := Lib.hid (show pairOfV a b = fun _ => 0 by unfold pairOfV; rw [hb2]; rfl)
      rw [HV.out, hb2]
      go_enter Try.func73, Try.ntmps73
      go_wp2_with (first | (refine wpList_alloc_blk rfl 44 rfl zeroP ?_) | (refine wpList_load_blk rfl 22 _ rfl (((Blk.new _ _ _ _).alloc _).alloc _) rfl Try.underlying22 sz6 ?_) | fail)
      go_at_call 40
      refine (isDie_any a _).mono ?_
      rintro e w1 ⟨rfl, hb1⟩
      have HB1 := Lib.hid hb1; clear hb1
      have A1 := Lib.hid (show Blk w1 w.heap.size 6 22 (I a) from Blk.below (by (repeat (first | (with_reducible exact Blk.new _ _ _ _) | ((with_reducible refine Blk.newS ?_); (focus (first | rfl | (simp; done)))) | ((with_reducible refine Blk.setRowNew ?_); (focus (first | rfl | (simp; done)))) | ((with_reducible refine Blk.setRowOther ?_ _ _ ?_); rotate_left; (focus (first | omega | (simp; done) | (simp; omega)))) | ((with_reducible refine Blk.other ?_ _ _ ?_); rotate_left; (focus (first | omega | (simp; done) | (simp; omega)))) | (with_reducible refine Blk.alloc ?_ _) | (with_reducible refine Blk.drewN ?_ _)))) HB1.out (by (focus (first | omega | (simp; done) | (simp; omega)))))
      have B1 := Lib.hid (show Blk w1 (w.heap.size + 1) 6 22 (I b) from Blk.below (by (repeat (first | (with_reducible exact Blk.new _ _ _ _) | ((with_reducible refine Blk.newS ?_); (focus (first | rfl | (simp; done)))) | ((with_reducible refine Blk.setRowNew ?_); (focus (first | rfl | (simp; done)))) | ((with_reducible refine Blk.setRowOther ?_ _ _ ?_); rotate_left; (focus (first | omega | (simp; done) | (simp; omega)))) | ((with_reducible refine Blk.other ?_ _ _ ?_); rotate_left; (focus (first | omega | (simp; done) | (simp; omega)))) | (with_reducible refine Blk.alloc ?_ _) | (with_reducible refine Blk.drewN ?_ _)))) HB1.out (by (focus (first | omega | (simp; done) | (simp; omega)))))
      have R1 := Lib.hid (show Blk w1 (w.heap.size + 1 + 1) 12 44 (I fun _ => 0) from Blk.below (by (repeat (first | (with_reducible exact Blk.new _ _ _ _) | ((with_reducible refine Blk.newS ?_); (focus (first | rfl | (simp; done)))) | ((with_reducible refine Blk.setRowNew ?_); (focus (first | rfl | (simp; done)))) | ((with_reducible refine Blk.setRowOther ?_ _ _ ?_); rotate_left; (focus (first | omega | (simp; done) | (simp; omega)))) | ((with_reducible refine Blk.other ?_ _ _ ?_); rotate_left; (focus (first | omega | (simp; done) | (simp; omega)))) | (with_reducible refine Blk.alloc ?_ _) | (with_reducible refine Blk.drewN ?_ _)))) HB1.out (by (focus (first | omega | (simp; done) | (simp; omega)))))
      have HB1 := Lib.hid (Below.trans (show Below w.heap.size w _ from (by (repeat (first | (with_reducible exact Below.refl _ _) | ((with_reducible refine below_setRow ?_ ?_ _); rotate_left; (focus (first | omega | (simp; done) | (simp; omega)))) | ((with_reducible refine Below.setCell ?_ ?_ _); rotate_left; (focus (first | omega | (simp; done) | (simp; omega)))) | ((with_reducible refine Below.alloc ?_ ?_ _); rotate_left; (focus (first | omega | (simp; done) | (simp; omega)))) | (with_reducible refine below_drewN ?_ _))))) (HB1.out.mono (by (focus (first | omega | (simp; done) | (simp; omega))))))
      rw [ha]
      go_wp2_with (first | (refine wpList_load_blk rfl 22 _ rfl (B1.out) rfl Try.underlying22 sz6 ?_) | fail)
      go_at_call 40
      refine (isDie_any b _).mono ?_
      rintro e w2 ⟨rfl, hb2⟩
      have A2 := Lib.hid (A1.out.below hb2 A1.out.lt)
      have B2 := Lib.hid (B1.out.below hb2 B1.out.lt)
      have R2 := Lib.hid (R1.out.below hb2 R1.out.lt)
      have HB2 := Lib.hid (HB1.out.trans (hb2.mono HB1.out.size)); clear hb2
      rw [hb]
      go_wp2_with (first | (refine wpList_build0_blk rfl 44 rfl builtP ?_) | (refine wpList_store_blk rfl 44 _ _ rfl (R2.out) rfl rfl szP (fun _ _ => rfl) ?_) | fail)
      exact post_agg_tmp rfl (R2.out.setRow _) rfl Try.isAgg44 szP rfl ⟨rfl, below_setRow HB2.out (by (focus (first | omega | (simp; done) | (simp; omega)))) _⟩
    · have hb2 : bothP a b = true := by simp [bothP, ha, hb]
      have HV := Lib.hid (show pairOfV a b = opairF a b by unfold pairOfV; rw [hb2]; rfl)
      rw [HV.out, hb2]
      go_enter Try.func73, Try.ntmps73
      go_wp2_with (first | (refine wpList_alloc_blk rfl 44 rfl zeroP ?_) | (refine wpList_load_blk rfl 22 _ rfl (((Blk.new _ _ _ _).alloc _).alloc _) rfl Try.underlying22 sz6 ?_) | fail)
      go_at_call 40
      refine (isDie_any a _).mono ?_
      rintro e w1 ⟨rfl, hb1⟩
      have HB1 := Lib.hid hb1; clear hb1
      have A1 := Lib.hid (show Blk w1 w.heap.size 6 22 (I a) from Blk.below (by (repeat (first | (with_reducible exact Blk.new _ _ _ _) | ((with_reducible refine Blk.newS ?_); (focus (first | rfl | (simp; done)))) | ((with_reducible refine Blk.setRowNew ?_); (focus (first | rfl | (simp; done)))) | ((with_reducible refine Blk.setRowOther ?_ _ _ ?_); rotate_left; (focus (first | omega | (simp; done) | (simp; omega)))) | ((with_reducible refine Blk.other ?_ _ _ ?_); rotate_left; (focus (first | omega | (simp; done) | (simp; omega)))) | (with_reducible refine Blk.alloc ?_ _) | (with_reducible refine Blk.drewN ?_ _)))) HB1.out (by (focus (first | omega | (simp; done) | (simp; omega)))))
      have B1 := Lib.hid (show Blk w1 (w.heap.size + 1) 6 22 (I b) from Blk.below (by (repeat (first | (with_reducible exact Blk.new _ _ _ _) | ((with_reducible refine Blk.newS ?_); (focus (first | rfl | (simp; done)))) | ((with_reducible refine Blk.setRowNew ?_); (focus (first | rfl | (simp; done)))) | ((with_reducible refine Blk.setRowOther ?_ _ _ ?_); rotate_left; (focus (first | omega | (simp; done) | (simp; omega)))) | ((with_reducible refine Blk.other ?_ _ _ ?_); rotate_left; (focus (first | omega | (simp; done) | (simp; omega)))) | (with_reducible refine Blk.alloc ?_ _) | (with_reducible refine Blk.drewN ?_ _)))) HB1.out (by (focus (first | omega | (simp; done) | (simp; omega)))))
      have R1 := Lib.hid (show Blk w1 (w.heap.size + 1 + 1) 12 44 (I fun _ => 0) from Blk.below (by (repeat (first | (with_reducible exact Blk.new _ _ _ _) | ((with_reducible refine Blk.newS ?_); (focus (first | rfl | (simp; done)))) | ((with_reducible refine Blk.setRowNew ?_); (focus (first | rfl | (simp; done)))) | ((with_reducible refine Blk.setRowOther ?_ _ _ ?_); rotate_left; (focus (first | omega | (simp; done) | (simp; omega)))) | ((with_reducible refine Blk.other ?_ _ _ ?_); rotate_left; (focus (first | omega | (simp; done) | (simp; omega)))) | (with_reducible refine Blk.alloc ?_ _) | (with_reducible refine Blk.drewN ?_ _)))) HB1.out (by (focus (first | omega | (simp; done) | (simp; omega)))))
      have HB1 := Lib.hid (Below.trans (show Below w.heap.size w _ from (by (repeat (first | (with_reducible exact Below.refl _ _) | ((with_reducible refine below_setRow ?_ ?_ _); rotate_left; (focus (first | omega | (simp; done) | (simp; omega)))) | ((with_reducible refine Below.setCell ?_ ?_ _); rotate_left; (focus (first | omega | (simp; done) | (simp; omega)))) | ((with_reducible refine Below.alloc ?_ ?_ _); rotate_left; (focus (first | omega | (simp; done) | (simp; omega)))) | (with_reducible refine below_drewN ?_ _))))) (HB1.out.mono (by (focus (first | omega | (simp; done) | (simp; omega))))))
      rw [ha]
      go_wp2_with (first | (refine wpList_load_blk rfl 22 _ rfl (B1.out) rfl Try.underlying22 sz6 ?_) | fail)
      go_at_call 40
      refine (isDie_any b _).mono ?_
      rintro e w2 ⟨rfl, hb2⟩
      have A2 := Lib.hid (A1.out.below hb2 A1.out.lt)
      have B2 := Lib.hid (B1.out.below hb2 B1.out.lt)
      have R2 := Lib.hid (R1.out.below hb2 R1.out.lt)
      have HB2 := Lib.hid (HB1.out.trans (hb2.mono HB1.out.size)); clear hb2
      rw [hb]
      clear ha hb hb2
      go_wp2_with (first | (refine wpList_load_blk rfl 22 _ rfl (A2.out) rfl Try.underlying22 sz6 ?_) | (refine wpList_load_blk rfl 22 _ rfl (B2.out) rfl Try.underlying22 sz6 ?_) | fail)
      go_at_call 150
      refine (pairOf_any a b _).mono ?_
      rintro e w3 ⟨rfl, hb3⟩
      have R3 := Lib.hid (R2.out.below hb3 R2.out.lt)
      have HB3 := Lib.hid (HB2.out.trans (hb3.mono HB2.out.size)); clear hb3
      go_wp2_with (first | (refine wpList_store_blk rfl 44 _ _ rfl (R3.out) rfl rfl szP (fun _ _ => rfl) ?_) | fail)
      exact post_agg_tmp rfl (R3.out.setRow _) rfl Try.isAgg44 szP rfl ⟨rfl, below_setRow HB3.out (by (focus (first | omega | (simp; done) | (simp; omega)))) _⟩


theorem szQ : (Try.prog.info? 42).map (·.size) = some 12 := by kernel_rfl
/-! ### eqPair, toPair -/
theorem eqPair_any (a b : Nat → Int) (w : World) : Calls Try.prog 74 #[pairV a b, pairV a b] w fun e w' => e = .returned (.bool true) ∧ Below w.heap.size w w' := by
  go_enter Try.func74, Try.ntmps74
  go_wp2_with (first | (refine wpList_load_part rfl 22 _ rfl ((Blk.new _ _ _ _).alloc _) rfl (Nat.le_of_ble_eq_true rfl) Try.isAgg22 sz6 (pairA a b) ?_) | (refine wpList_load_part rfl 22 _ rfl (Blk.newS (b := w.heap.size + 1) (by simp)) rfl (Nat.le_of_ble_eq_true rfl) Try.isAgg22 sz6 (pairA a b) ?_) | fail)
  go_at_call 48
  refine (eqA6_any a _).mono ?_
  rintro e w1 ⟨rfl, hb1⟩
  have HB1 := Lib.hid hb1; clear hb1
  have A1 := Lib.hid (show Blk w1 w.heap.size 12 44 (I (pairF a b)) from Blk.below (by (repeat (first | (with_reducible exact Blk.new _ _ _ _) | ((with_reducible refine Blk.newS ?_); (focus (first | rfl | (simp; done)))) | ((with_reducible refine Blk.setRowNew ?_); (focus (first | rfl | (simp; done)))) | ((with_reducible refine Blk.setRowOther ?_ _ _ ?_); rotate_left; (focus (first | omega | (simp; done) | (simp; omega)))) | ((with_reducible refine Blk.other ?_ _ _ ?_); rotate_left; (focus (first | omega | (simp; done) | (simp; omega)))) | (with_reducible refine Blk.alloc ?_ _) | (with_reducible refine Blk.drewN ?_ _)))) HB1.out (by (focus (first | omega | (simp; done) | (simp; omega)))))
  have B1 := Lib.hid (show Blk w1 (w.heap.size + 1) 12 44 (I (pairF a b)) from Blk.below (by (repeat (first | (with_reducible exact Blk.new _ _ _ _) | ((with_reducible refine Blk.newS ?_); (focus (first | rfl | (simp; done)))) | ((with_reducible refine Blk.setRowNew ?_); (focus (first | rfl | (simp; done)))) | ((with_reducible refine Blk.setRowOther ?_ _ _ ?_); rotate_left; (focus (first | omega | (simp; done) | (simp; omega)))) | ((with_reducible refine Blk.other ?_ _ _ ?_); rotate_left; (focus (first | omega | (simp; done) | (simp; omega)))) | (with_reducible refine Blk.alloc ?_ _) | (with_reducible refine Blk.drewN ?_ _)))) HB1.out (by (focus (first | omega | (simp; done) | (simp; omega)))))
  have HB1 := Lib.hid (Below.trans (show Below w.heap.size w _ from (by (repeat (first | (with_reducible exact Below.refl _ _) | ((with_reducible refine below_setRow ?_ ?_ _); rotate_left; (focus (first | omega | (simp; done) | (simp; omega)))) | ((with_reducible refine Below.setCell ?_ ?_ _); rotate_left; (focus (first | omega | (simp; done) | (simp; omega)))) | ((with_reducible refine Below.alloc ?_ ?_ _); rotate_left; (focus (first | omega | (simp; done) | (simp; omega)))) | (with_reducible refine below_drewN ?_ _))))) (HB1.out.mono (by (focus (first | omega | (simp; done) | (simp; omega))))))
  go_wp2_with (first | (refine wpList_load_part rfl 22 _ rfl (A1.out) rfl (Nat.le_of_ble_eq_true rfl) Try.isAgg22 sz6 (pairB a b) ?_) | (refine wpList_load_part rfl 22 _ rfl (B1.out) rfl (Nat.le_of_ble_eq_true rfl) Try.isAgg22 sz6 (pairB a b) ?_) | fail)
  go_at_call 48
  refine (eqA6_any b _).mono ?_
  rintro e w2 ⟨rfl, hb2⟩
  have HB2 := Lib.hid (HB1.out.trans (hb2.mono HB1.out.size)); clear hb2
  go_wp2
  go_ret
  exact ⟨rfl, HB2.out⟩

theorem splA (a b : Nat → Int) (f : Nat → Value) : ∀ i, i < 12 → splice (splice f 0 6 (I a)) 6 6 (I b) i = I (pairF a b) i := fun i hi => by
  simp only [splice, I, pairF]
  by_cases h : i < 6
  · rw [if_neg (by omega), if_pos (by omega), if_pos h, Nat.sub_zero]
  · rw [if_pos (by omega), if_neg h]
theorem toPair_any (a b : Nat → Int) (w : World) : Calls Try.prog 59 #[pairV a b] w fun e w' => e = .returned (pairV a b) ∧ Below w.heap.size w w' := by
  go_enter Try.func59, Try.ntmps59
  go_wp2_with (first | (refine wpList_alloc_blk rfl 44 rfl zeroP ?_) | (refine wpList_load_part rfl 22 _ rfl (((Blk.new _ _ _ _).alloc _).alloc _) rfl (Nat.le_of_ble_eq_true rfl) Try.isAgg22 sz6 (pairA a b) ?_) | fail)
  go_at_call 39
  refine (toA6_any a _).mono ?_
  rintro e w1 ⟨rfl, hb1⟩
  have HB1 := Lib.hid hb1; clear hb1
  have A1 := Lib.hid (show Blk w1 w.heap.size 12 42 (I (pairF a b)) from Blk.below (by (repeat (first | (with_reducible exact Blk.new _ _ _ _) | ((with_reducible refine Blk.newS ?_); (focus (first | rfl | (simp; done)))) | ((with_reducible refine Blk.setRowNew ?_); (focus (first | rfl | (simp; done)))) | ((with_reducible refine Blk.setRowOther ?_ _ _ ?_); rotate_left; (focus (first | omega | (simp; done) | (simp; omega)))) | ((with_reducible refine Blk.other ?_ _ _ ?_); rotate_left; (focus (first | omega | (simp; done) | (simp; omega)))) | (with_reducible refine Blk.alloc ?_ _) | (with_reducible refine Blk.drewN ?_ _)))) HB1.out (by (focus (first | omega | (simp; done) | (simp; omega)))))
  have R1 := Lib.hid (show Blk w1 (w.heap.size + 1) 12 44 (I fun _ => 0) from Blk.below (by (repeat (first | (with_reducible exact Blk.new _ _ _ _) | ((with_reducible refine Blk.newS ?_); (focus (first | rfl | (simp; done)))) | ((with_reducible refine Blk.setRowNew ?_); (focus (first | rfl | (simp; done)))) | ((with_reducible refine Blk.setRowOther ?_ _ _ ?_); rotate_left; (focus (first | omega | (simp; done) | (simp; omega)))) | ((with_reducible refine Blk.other ?_ _ _ ?_); rotate_left; (focus (first | omega | (simp; done) | (simp; omega)))) | (with_reducible refine Blk.alloc ?_ _) | (with_reducible refine Blk.drewN ?_ _)))) HB1.out (by (focus (first | omega | (simp; done) | (simp; omega)))))
  have O1 := Lib.hid (show Blk w1 (w.heap.size + 1 + 1) 12 44 (I fun _ => 0) from Blk.below (by (repeat (first | (with_reducible exact Blk.new _ _ _ _) | ((with_reducible refine Blk.newS ?_); (focus (first | rfl | (simp; done)))) | ((with_reducible refine Blk.setRowNew ?_); (focus (first | rfl | (simp; done)))) | ((with_reducible refine Blk.setRowOther ?_ _ _ ?_); rotate_left; (focus (first | omega | (simp; done) | (simp; omega)))) | ((with_reducible refine Blk.other ?_ _ _ ?_); rotate_left; (focus (first | omega | (simp; done) | (simp; omega)))) | (with_reducible refine Blk.alloc ?_ _) | (with_reducible refine Blk.drewN ?_ _)))) HB1.out (by (focus (first | omega | (simp; done) | (simp; omega)))))
  have HB1 := Lib.hid (Below.trans (show Below w.heap.size w _ from (by (repeat (first | (with_reducible exact Below.refl _ _) | ((with_reducible refine below_setRow ?_ ?_ _); rotate_left; (focus (first | omega | (simp; done) | (simp; omega)))) | ((with_reducible refine Below.setCell ?_ ?_ _); rotate_left; (focus (first | omega | (simp; done) | (simp; omega)))) | ((with_reducible refine Below.alloc ?_ ?_ _); rotate_left; (focus (first | omega | (simp; done) | (simp; omega)))) | (with_reducible refine below_drewN ?_ _))))) (HB1.out.mono (by (focus (first | omega | (simp; done) | (simp; omega))))))
  go_wp2_with (first | (refine wpList_store_part rfl 22 _ _ rfl (O1.out) rfl rfl (Nat.le_of_ble_eq_true rfl) sz6 (fun _ _ => rfl) ?_) | (refine wpList_load_part rfl 22 _ rfl (A1.out.setRowOther _ _ (ne02 _)) rfl (Nat.le_of_ble_eq_true rfl) Try.isAgg22 sz6 (pairB a b) ?_) | fail)
  go_at_call 39
  refine (toA6_any b _).mono ?_
  rintro e w2 ⟨rfl, hb2⟩
  have HB2 := Lib.hid hb2; clear hb2
  have R2 := Lib.hid ((R1.out.setRowOther _ (row 12 (splice (I fun _ => 0) 0 6 (I a))) (ne01 _)).below HB2.out (by have := R1.out.lt; simp; omega))
  have O2 := Lib.hid ((O1.out.setRow (splice (I fun _ => 0) 0 6 (I a))).below HB2.out (by have := O1.out.lt; simp; omega))
  have HB2 := Lib.hid ((below_setRow HB1.out (by omega : w.heap.size ≤ w.heap.size + 1 + 1) (row 12 (splice (I fun _ => 0) 0 6 (I a)))).trans (HB2.out.mono (by have := HB1.out.size; simp; omega)))
  go_wp2_with (first | (refine wpList_store_part rfl 22 _ _ rfl (O2.out) rfl rfl (Nat.le_of_ble_eq_true rfl) sz6 (fun _ _ => rfl) ?_) | (refine wpList_load_part rfl 44 _ rfl (O2.out.setRow _) rfl (Nat.le_of_ble_eq_true rfl) Try.isAgg44 szP (fun i hi => (congrArg _ (Nat.zero_add i)).trans (splA a b _ i hi)) ?_) | (refine wpList_store_blk rfl 44 _ _ rfl (R2.out.setRowOther _ _ (ne01 _)) rfl rfl szP (fun _ _ => rfl) ?_) | fail)
  exact post_agg rfl ((R2.out.setRowOther _ _ (ne01 _)).setRow _) rfl Try.isAgg44 szP rfl ⟨rfl, below_setRow (below_setRow HB2.out (by (focus (first | omega | (simp; done) | (simp; omega)))) _) (by (focus (first | omega | (simp; done) | (simp; omega)))) _⟩

end Go.Proofs.Ytmhlfpcndgoemaa
