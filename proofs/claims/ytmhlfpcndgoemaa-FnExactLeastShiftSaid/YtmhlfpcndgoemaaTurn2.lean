/- Contracts of functions of this program, used by the laws of this seat. No condition beyond what each theorem states. -/
import Derived.Test.YtmhlfpcndgoemaaTurn
set_option linter.unusedVariables false
set_option linter.unusedSimpArgs false
set_option linter.unusedSectionVars false
namespace Go.Proofs.Ytmhlfpcndgoemaa
open Go.RowKit
noncomputable def oppV (d : Nat → Int) : Nat → Int := if dieB d then opp d else fun _ => 0
noncomputable def basV (d : Nat → Int) : Nat → Int := if dieB d then bas d else fun _ => 0
noncomputable def shiftB (d : Nat → Int) (x : Int) : Bool := dieB d && ((decide (-30 ≤ x) && decide (x ≤ 30)) && dieB fun i => d i + x)
noncomputable def shiftV (d : Nat → Int) (x : Int) : Nat → Int := if shiftB d x then fun i => d i + x else fun _ => 0

theorem iOpposite_any (d : Nat → Int) (w : World) : Calls Try.prog 47 #[dieV d] w fun e w' => e = .returned (.tuple #[dieV (oppV d), .bool (dieB d)]) ∧ Below w.heap.size w w' := by
  unfold oppV
  cases hd : dieB d
  · go_enter Try.func47, Try.ntmps47
    go_wp2_with (first | (refine wpList_alloc_blk rfl 22 rfl zero6 ?_) | (refine wpList_load_blk rfl 22 _ rfl ((Blk.new _ _ _ _).alloc _) rfl Try.underlying22 sz6 ?_) | fail)
    go_at_call 40
    refine (isDie_any d _).mono ?_
    rintro e w1 ⟨rfl, hb1⟩
    have HB1 := Lib.hid hb1; clear hb1
    have A1 := Lib.hid (show Blk w1 w.heap.size 6 22 (I d) from Blk.below (by (repeat (first | (with_reducible exact Blk.new _ _ _ _) | ((with_reducible refine Blk.newS ?_); (focus (first | rfl | (simp; done)))) | ((with_reducible refine Blk.setRowNew ?_); (focus (first | rfl | (simp; done)))) | ((with_reducible refine Blk.setRowOther ?_ _ _ ?_); rotate_left; (focus (first | omega | (simp; done) | (simp; omega)))) | ((with_reducible refine Blk.other ?_ _ _ ?_); rotate_left; (focus (first | omega | (simp; done) | (simp; omega)))) | (with_reducible refine Blk.alloc ?_ _) | (with_reducible refine Blk.drewN ?_ _)))) HB1.out (by (focus (first | omega | (simp; done) | (simp; omega)))))
    have R1 := Lib.hid (show Blk w1 (w.heap.size + 1) 6 22 (I fun _ => 0) from Blk.below (by (repeat (first | (with_reducible exact Blk.new _ _ _ _) | ((with_reducible refine Blk.newS ?_); (focus (first | rfl | (simp; done)))) | ((with_reducible refine Blk.setRowNew ?_); (focus (first | rfl | (simp; done)))) | ((with_reducible refine Blk.setRowOther ?_ _ _ ?_); rotate_left; (focus (first | omega | (simp; done) | (simp; omega)))) | ((with_reducible refine Blk.other ?_ _ _ ?_); rotate_left; (focus (first | omega | (simp; done) | (simp; omega)))) | (with_reducible refine Blk.alloc ?_ _) | (with_reducible refine Blk.drewN ?_ _)))) HB1.out (by (focus (first | omega | (simp; done) | (simp; omega)))))
    have HB1 := Lib.hid (Below.trans (show Below w.heap.size w _ from (by (repeat (first | (with_reducible exact Below.refl _ _) | ((with_reducible refine below_setRow ?_ ?_ _); rotate_left; (focus (first | omega | (simp; done) | (simp; omega)))) | ((with_reducible refine Below.setCell ?_ ?_ _); rotate_left; (focus (first | omega | (simp; done) | (simp; omega)))) | ((with_reducible refine Below.alloc ?_ ?_ _); rotate_left; (focus (first | omega | (simp; done) | (simp; omega)))) | (with_reducible refine below_drewN ?_ _))))) (HB1.out.mono (by (focus (first | omega | (simp; done) | (simp; omega))))))
    rw [hd]
    go_wp2_with (first | (refine wpList_build0_blk rfl 22 rfl built6 ?_) | (refine wpList_store_blk rfl 22 _ _ rfl (R1.out) rfl rfl sz6 (fun _ _ => rfl) ?_) | fail)
    exact post_blk_tmp rfl (R1.out.setRow _) rfl Try.underlying22 sz6 rfl ⟨rfl, below_setRow HB1.out (by (focus (first | omega | (simp; done) | (simp; omega)))) _⟩
  · have HS := Lib.hid (small_of hd)
    go_enter Try.func47, Try.ntmps47
    go_wp2_with (first | (refine wpList_alloc_blk rfl 22 rfl zero6 ?_) | (refine wpList_load_blk rfl 22 _ rfl ((Blk.new _ _ _ _).alloc _) rfl Try.underlying22 sz6 ?_) | fail)
    go_at_call 40
    refine (isDie_any d _).mono ?_
    rintro e w1 ⟨rfl, hb1⟩
    have HB1 := Lib.hid hb1; clear hb1
    have A1 := Lib.hid (show Blk w1 w.heap.size 6 22 (I d) from Blk.below (by (repeat (first | (with_reducible exact Blk.new _ _ _ _) | ((with_reducible refine Blk.newS ?_); (focus (first | rfl | (simp; done)))) | ((with_reducible refine Blk.setRowNew ?_); (focus (first | rfl | (simp; done)))) | ((with_reducible refine Blk.setRowOther ?_ _ _ ?_); rotate_left; (focus (first | omega | (simp; done) | (simp; omega)))) | ((with_reducible refine Blk.other ?_ _ _ ?_); rotate_left; (focus (first | omega | (simp; done) | (simp; omega)))) | (with_reducible refine Blk.alloc ?_ _) | (with_reducible refine Blk.drewN ?_ _)))) HB1.out (by (focus (first | omega | (simp; done) | (simp; omega)))))
    have R1 := Lib.hid (show Blk w1 (w.heap.size + 1) 6 22 (I fun _ => 0) from Blk.below (by (repeat (first | (with_reducible exact Blk.new _ _ _ _) | ((with_reducible refine Blk.newS ?_); (focus (first | rfl | (simp; done)))) | ((with_reducible refine Blk.setRowNew ?_); (focus (first | rfl | (simp; done)))) | ((with_reducible refine Blk.setRowOther ?_ _ _ ?_); rotate_left; (focus (first | omega | (simp; done) | (simp; omega)))) | ((with_reducible refine Blk.other ?_ _ _ ?_); rotate_left; (focus (first | omega | (simp; done) | (simp; omega)))) | (with_reducible refine Blk.alloc ?_ _) | (with_reducible refine Blk.drewN ?_ _)))) HB1.out (by (focus (first | omega | (simp; done) | (simp; omega)))))
    have HB1 := Lib.hid (Below.trans (show Below w.heap.size w _ from (by (repeat (first | (with_reducible exact Below.refl _ _) | ((with_reducible refine below_setRow ?_ ?_ _); rotate_left; (focus (first | omega | (simp; done) | (simp; omega)))) | ((with_reducible refine Below.setCell ?_ ?_ _); rotate_left; (focus (first | omega | (simp; done) | (simp; omega)))) | ((with_reducible refine Below.alloc ?_ ?_ _); rotate_left; (focus (first | omega | (simp; done) | (simp; omega)))) | (with_reducible refine below_drewN ?_ _))))) (HB1.out.mono (by (focus (first | omega | (simp; done) | (simp; omega))))))
    rw [hd]
    clear hd
    go_wp2_with (first | (refine wpList_load_blk rfl 22 _ rfl (A1.out) rfl Try.underlying22 sz6 ?_) | fail)
    go_at_call 133
    refine (opposite_any d HS.out _).mono ?_
    rintro e w2 ⟨rfl, hb2⟩
    have A2 := Lib.hid (A1.out.below hb2 A1.out.lt)
    have R2 := Lib.hid (R1.out.below hb2 R1.out.lt)
    have HB2 := Lib.hid (HB1.out.trans (hb2.mono HB1.out.size)); clear hb2
    go_wp2_with (first | (refine wpList_store_blk rfl 22 _ _ rfl (R2.out) rfl rfl sz6 (fun _ _ => rfl) ?_) | fail)
    exact post_blk_tmp rfl (R2.out.setRow _) rfl Try.underlying22 sz6 rfl ⟨rfl, below_setRow HB2.out (by (focus (first | omega | (simp; done) | (simp; omega)))) _⟩

theorem sBaseOf_any (d : Nat → Int) (w : World) : Calls Try.prog 51 #[dieV d] w fun e w' => e = .returned (.tuple #[dieV (basV d), .bool (dieB d)]) ∧ Below w.heap.size w w' := by
  unfold basV
  cases hd : dieB d
  · go_enter Try.func51, Try.ntmps51
    go_wp2_with (first | (refine wpList_alloc_blk rfl 22 rfl zero6 ?_) | (refine wpList_load_blk rfl 22 _ rfl ((Blk.new _ _ _ _).alloc _) rfl Try.underlying22 sz6 ?_) | fail)
    go_at_call 129
    refine (l2Die_any d _).mono ?_
    rintro e w1 ⟨rfl, hb1⟩
    have HB1 := Lib.hid hb1; clear hb1
    have A1 := Lib.hid (show Blk w1 w.heap.size 6 22 (I d) from Blk.below (by (repeat (first | (with_reducible exact Blk.new _ _ _ _) | ((with_reducible refine Blk.newS ?_); (focus (first | rfl | (simp; done)))) | ((with_reducible refine Blk.setRowNew ?_); (focus (first | rfl | (simp; done)))) | ((with_reducible refine Blk.setRowOther ?_ _ _ ?_); rotate_left; (focus (first | omega | (simp; done) | (simp; omega)))) | ((with_reducible refine Blk.other ?_ _ _ ?_); rotate_left; (focus (first | omega | (simp; done) | (simp; omega)))) | (with_reducible refine Blk.alloc ?_ _) | (with_reducible refine Blk.drewN ?_ _)))) HB1.out (by (focus (first | omega | (simp; done) | (simp; omega)))))
    have R1 := Lib.hid (show Blk w1 (w.heap.size + 1) 6 22 (I fun _ => 0) from Blk.below (by (repeat (first | (with_reducible exact Blk.new _ _ _ _) | ((with_reducible refine Blk.newS ?_); (focus (first | rfl | (simp; done)))) | ((with_reducible refine Blk.setRowNew ?_); (focus (first | rfl | (simp; done)))) | ((with_reducible refine Blk.setRowOther ?_ _ _ ?_); rotate_left; (focus (first | omega | (simp; done) | (simp; omega)))) | ((with_reducible refine Blk.other ?_ _ _ ?_); rotate_left; (focus (first | omega | (simp; done) | (simp; omega)))) | (with_reducible refine Blk.alloc ?_ _) | (with_reducible refine Blk.drewN ?_ _)))) HB1.out (by (focus (first | omega | (simp; done) | (simp; omega)))))
    have HB1 := Lib.hid (Below.trans (show Below w.heap.size w _ from (by (repeat (first | (with_reducible exact Below.refl _ _) | ((with_reducible refine below_setRow ?_ ?_ _); rotate_left; (focus (first | omega | (simp; done) | (simp; omega)))) | ((with_reducible refine Below.setCell ?_ ?_ _); rotate_left; (focus (first | omega | (simp; done) | (simp; omega)))) | ((with_reducible refine Below.alloc ?_ ?_ _); rotate_left; (focus (first | omega | (simp; done) | (simp; omega)))) | (with_reducible refine below_drewN ?_ _))))) (HB1.out.mono (by (focus (first | omega | (simp; done) | (simp; omega))))))
    rw [hd]
    go_wp2_with (first | (refine wpList_build0_blk rfl 22 rfl built6 ?_) | (refine wpList_store_blk rfl 22 _ _ rfl (R1.out) rfl rfl sz6 (fun _ _ => rfl) ?_) | fail)
    exact post_blk_tmp rfl (R1.out.setRow _) rfl Try.underlying22 sz6 rfl ⟨rfl, below_setRow HB1.out (by (focus (first | omega | (simp; done) | (simp; omega)))) _⟩
  · have HS := Lib.hid (small_of hd)
    go_enter Try.func51, Try.ntmps51
    go_wp2_with (first | (refine wpList_alloc_blk rfl 22 rfl zero6 ?_) | (refine wpList_load_blk rfl 22 _ rfl ((Blk.new _ _ _ _).alloc _) rfl Try.underlying22 sz6 ?_) | fail)
    go_at_call 129
    refine (l2Die_any d _).mono ?_
    rintro e w1 ⟨rfl, hb1⟩
    have HB1 := Lib.hid hb1; clear hb1
    have A1 := Lib.hid (show Blk w1 w.heap.size 6 22 (I d) from Blk.below (by (repeat (first | (with_reducible exact Blk.new _ _ _ _) | ((with_reducible refine Blk.newS ?_); (focus (first | rfl | (simp; done)))) | ((with_reducible refine Blk.setRowNew ?_); (focus (first | rfl | (simp; done)))) | ((with_reducible refine Blk.setRowOther ?_ _ _ ?_); rotate_left; (focus (first | omega | (simp; done) | (simp; omega)))) | ((with_reducible refine Blk.other ?_ _ _ ?_); rotate_left; (focus (first | omega | (simp; done) | (simp; omega)))) | (with_reducible refine Blk.alloc ?_ _) | (with_reducible refine Blk.drewN ?_ _)))) HB1.out (by (focus (first | omega | (simp; done) | (simp; omega)))))
    have R1 := Lib.hid (show Blk w1 (w.heap.size + 1) 6 22 (I fun _ => 0) from Blk.below (by (repeat (first | (with_reducible exact Blk.new _ _ _ _) | ((with_reducible refine Blk.newS ?_); (focus (first | rfl | (simp; done)))) | ((with_reducible refine Blk.setRowNew ?_); (focus (first | rfl | (simp; done)))) | ((with_reducible refine Blk.setRowOther ?_ _ _ ?_); rotate_left; (focus (first | omega | (simp; done) | (simp; omega)))) | ((with_reducible refine Blk.other ?_ _ _ ?_); rotate_left; (focus (first | omega | (simp; done) | (simp; omega)))) | (with_reducible refine Blk.alloc ?_ _) | (with_reducible refine Blk.drewN ?_ _)))) HB1.out (by (focus (first | omega | (simp; done) | (simp; omega)))))
    have HB1 := Lib.hid (Below.trans (show Below w.heap.size w _ from (by (repeat (first | (with_reducible exact Below.refl _ _) | ((with_reducible refine below_setRow ?_ ?_ _); rotate_left; (focus (first | omega | (simp; done) | (simp; omega)))) | ((with_reducible refine Below.setCell ?_ ?_ _); rotate_left; (focus (first | omega | (simp; done) | (simp; omega)))) | ((with_reducible refine Below.alloc ?_ ?_ _); rotate_left; (focus (first | omega | (simp; done) | (simp; omega)))) | (with_reducible refine below_drewN ?_ _))))) (HB1.out.mono (by (focus (first | omega | (simp; done) | (simp; omega))))))
    rw [hd]
    clear hd
    go_wp2_with (first | (refine wpList_load_blk rfl 22 _ rfl (A1.out) rfl Try.underlying22 sz6 ?_) | fail)
    go_at_call 137
    refine (l5Base_any d HS.out _).mono ?_
    rintro e w2 ⟨rfl, hb2⟩
    have A2 := Lib.hid (A1.out.below hb2 A1.out.lt)
    have R2 := Lib.hid (R1.out.below hb2 R1.out.lt)
    have HB2 := Lib.hid (HB1.out.trans (hb2.mono HB1.out.size)); clear hb2
    go_wp2_with (first | (refine wpList_store_blk rfl 22 _ _ rfl (R2.out) rfl rfl sz6 (fun _ _ => rfl) ?_) | fail)
    exact post_blk_tmp rfl (R2.out.setRow _) rfl Try.underlying22 sz6 rfl ⟨rfl, below_setRow HB2.out (by (focus (first | omega | (simp; done) | (simp; omega)))) _⟩

theorem iBaseOf_any (d : Nat → Int) (w : World) : Calls Try.prog 52 #[dieV d] w fun e w' => e = .returned (.tuple #[dieV (basV d), .bool (dieB d)]) ∧ Below w.heap.size w w' := by
  unfold basV
  cases hd : dieB d
  · go_enter Try.func52, Try.ntmps52
    go_wp2_with (first | (refine wpList_alloc_blk rfl 22 rfl zero6 ?_) | (refine wpList_load_blk rfl 22 _ rfl ((Blk.new _ _ _ _).alloc _) rfl Try.underlying22 sz6 ?_) | fail)
    go_at_call 40
    refine (isDie_any d _).mono ?_
    rintro e w1 ⟨rfl, hb1⟩
    have HB1 := Lib.hid hb1; clear hb1
    have A1 := Lib.hid (show Blk w1 w.heap.size 6 22 (I d) from Blk.below (by (repeat (first | (with_reducible exact Blk.new _ _ _ _) | ((with_reducible refine Blk.newS ?_); (focus (first | rfl | (simp; done)))) | ((with_reducible refine Blk.setRowNew ?_); (focus (first | rfl | (simp; done)))) | ((with_reducible refine Blk.setRowOther ?_ _ _ ?_); rotate_left; (focus (first | omega | (simp; done) | (simp; omega)))) | ((with_reducible refine Blk.other ?_ _ _ ?_); rotate_left; (focus (first | omega | (simp; done) | (simp; omega)))) | (with_reducible refine Blk.alloc ?_ _) | (with_reducible refine Blk.drewN ?_ _)))) HB1.out (by (focus (first | omega | (simp; done) | (simp; omega)))))
    have R1 := Lib.hid (show Blk w1 (w.heap.size + 1) 6 22 (I fun _ => 0) from Blk.below (by (repeat (first | (with_reducible exact Blk.new _ _ _ _) | ((with_reducible refine Blk.newS ?_); (focus (first | rfl | (simp; done)))) | ((with_reducible refine Blk.setRowNew ?_); (focus (first | rfl | (simp; done)))) | ((with_reducible refine Blk.setRowOther ?_ _ _ ?_); rotate_left; (focus (first | omega | (simp; done) | (simp; omega)))) | ((with_reducible refine Blk.other ?_ _ _ ?_); rotate_left; (focus (first | omega | (simp; done) | (simp; omega)))) | (with_reducible refine Blk.alloc ?_ _) | (with_reducible refine Blk.drewN ?_ _)))) HB1.out (by (focus (first | omega | (simp; done) | (simp; omega)))))
    have HB1 := Lib.hid (Below.trans (show Below w.heap.size w _ from (by (repeat (first | (with_reducible exact Below.refl _ _) | ((with_reducible refine below_setRow ?_ ?_ _); rotate_left; (focus (first | omega | (simp; done) | (simp; omega)))) | ((with_reducible refine Below.setCell ?_ ?_ _); rotate_left; (focus (first | omega | (simp; done) | (simp; omega)))) | ((with_reducible refine Below.alloc ?_ ?_ _); rotate_left; (focus (first | omega | (simp; done) | (simp; omega)))) | (with_reducible refine below_drewN ?_ _))))) (HB1.out.mono (by (focus (first | omega | (simp; done) | (simp; omega))))))
    rw [hd]
    go_wp2_with (first | (refine wpList_build0_blk rfl 22 rfl built6 ?_) | (refine wpList_store_blk rfl 22 _ _ rfl (R1.out) rfl rfl sz6 (fun _ _ => rfl) ?_) | fail)
    exact post_blk_tmp rfl (R1.out.setRow _) rfl Try.underlying22 sz6 rfl ⟨rfl, below_setRow HB1.out (by (focus (first | omega | (simp; done) | (simp; omega)))) _⟩
  · have HS := Lib.hid (small_of hd)
    go_enter Try.func52, Try.ntmps52
    go_wp2_with (first | (refine wpList_alloc_blk rfl 22 rfl zero6 ?_) | (refine wpList_load_blk rfl 22 _ rfl ((Blk.new _ _ _ _).alloc _) rfl Try.underlying22 sz6 ?_) | fail)
    go_at_call 40
    refine (isDie_any d _).mono ?_
    rintro e w1 ⟨rfl, hb1⟩
    have HB1 := Lib.hid hb1; clear hb1
    have A1 := Lib.hid (show Blk w1 w.heap.size 6 22 (I d) from Blk.below (by (repeat (first | (with_reducible exact Blk.new _ _ _ _) | ((with_reducible refine Blk.newS ?_); (focus (first | rfl | (simp; done)))) | ((with_reducible refine Blk.setRowNew ?_); (focus (first | rfl | (simp; done)))) | ((with_reducible refine Blk.setRowOther ?_ _ _ ?_); rotate_left; (focus (first | omega | (simp; done) | (simp; omega)))) | ((with_reducible refine Blk.other ?_ _ _ ?_); rotate_left; (focus (first | omega | (simp; done) | (simp; omega)))) | (with_reducible refine Blk.alloc ?_ _) | (with_reducible refine Blk.drewN ?_ _)))) HB1.out (by (focus (first | omega | (simp; done) | (simp; omega)))))
    have R1 := Lib.hid (show Blk w1 (w.heap.size + 1) 6 22 (I fun _ => 0) from Blk.below (by (repeat (first | (with_reducible exact Blk.new _ _ _ _) | ((with_reducible refine Blk.newS ?_); (focus (first | rfl | (simp; done)))) | ((with_reducible refine Blk.setRowNew ?_); (focus (first | rfl | (simp; done)))) | ((with_reducible refine Blk.setRowOther ?_ _ _ ?_); rotate_left; (focus (first | omega | (simp; done) | (simp; omega)))) | ((with_reducible refine Blk.other ?_ _ _ ?_); rotate_left; (focus (first | omega | (simp; done) | (simp; omega)))) | (with_reducible refine Blk.alloc ?_ _) | (with_reducible refine Blk.drewN ?_ _)))) HB1.out (by (focus (first | omega | (simp; done) | (simp; omega)))))
    have HB1 := Lib.hid (Below.trans (show Below w.heap.size w _ from (by (repeat (first | (with_reducible exact Below.refl _ _) | ((with_reducible refine below_setRow ?_ ?_ _); rotate_left; (focus (first | omega | (simp; done) | (simp; omega)))) | ((with_reducible refine Below.setCell ?_ ?_ _); rotate_left; (focus (first | omega | (simp; done) | (simp; omega)))) | ((with_reducible refine Below.alloc ?_ ?_ _); rotate_left; (focus (first | omega | (simp; done) | (simp; omega)))) | (with_reducible refine below_drewN ?_ _))))) (HB1.out.mono (by (focus (first | omega | (simp; done) | (simp; omega))))))
    rw [hd]
    clear hd
    go_wp2_with (first | (refine wpList_load_blk rfl 22 _ rfl (A1.out) rfl Try.underlying22 sz6 ?_) | fail)
    go_at_call 138
    refine (base_any d HS.out _).mono ?_
    rintro e w2 ⟨rfl, hb2⟩
    have A2 := Lib.hid (A1.out.below hb2 A1.out.lt)
    have R2 := Lib.hid (R1.out.below hb2 R1.out.lt)
    have HB2 := Lib.hid (HB1.out.trans (hb2.mono HB1.out.size)); clear hb2
    go_wp2_with (first | (refine wpList_store_blk rfl 22 _ _ rfl (R2.out) rfl rfl sz6 (fun _ _ => rfl) ?_) | fail)
    exact post_blk_tmp rfl (R2.out.setRow _) rfl Try.underlying22 sz6 rfl ⟨rfl, below_setRow HB2.out (by (focus (first | omega | (simp; done) | (simp; omega)))) _⟩

theorem sOpposite_any (d : Nat → Int) (w : World) : Calls Try.prog 46 #[dieV d] w fun e w' => e = .returned (.tuple #[dieV (oppV d), .bool (dieB d)]) ∧ Below w.heap.size w w' := by
  unfold oppV
  cases hd : dieB d
  · go_enter Try.func46, Try.ntmps46
    go_wp2_with (first | (refine wpList_alloc_blk rfl 22 rfl zero6 ?_) | (refine wpList_load_blk rfl 22 _ rfl ((Blk.new _ _ _ _).alloc _) rfl Try.underlying22 sz6 ?_) | fail)
    go_at_call 129
    refine (l2Die_any d _).mono ?_
    rintro e w1 ⟨rfl, hb1⟩
    have HB1 := Lib.hid hb1; clear hb1
    have A1 := Lib.hid (show Blk w1 w.heap.size 6 22 (I d) from Blk.below (by (repeat (first | (with_reducible exact Blk.new _ _ _ _) | ((with_reducible refine Blk.newS ?_); (focus (first | rfl | (simp; done)))) | ((with_reducible refine Blk.setRowNew ?_); (focus (first | rfl | (simp; done)))) | ((with_reducible refine Blk.setRowOther ?_ _ _ ?_); rotate_left; (focus (first | omega | (simp; done) | (simp; omega)))) | ((with_reducible refine Blk.other ?_ _ _ ?_); rotate_left; (focus (first | omega | (simp; done) | (simp; omega)))) | (with_reducible refine Blk.alloc ?_ _) | (with_reducible refine Blk.drewN ?_ _)))) HB1.out (by (focus (first | omega | (simp; done) | (simp; omega)))))
    have R1 := Lib.hid (show Blk w1 (w.heap.size + 1) 6 22 (I fun _ => 0) from Blk.below (by (repeat (first | (with_reducible exact Blk.new _ _ _ _) | ((with_reducible refine Blk.newS ?_); (focus (first | rfl | (simp; done)))) | ((with_reducible refine Blk.setRowNew ?_); (focus (first | rfl | (simp; done)))) | ((with_reducible refine Blk.setRowOther ?_ _ _ ?_); rotate_left; (focus (first | omega | (simp; done) | (simp; omega)))) | ((with_reducible refine Blk.other ?_ _ _ ?_); rotate_left; (focus (first | omega | (simp; done) | (simp; omega)))) | (with_reducible refine Blk.alloc ?_ _) | (with_reducible refine Blk.drewN ?_ _)))) HB1.out (by (focus (first | omega | (simp; done) | (simp; omega)))))
    have HB1 := Lib.hid (Below.trans (show Below w.heap.size w _ from (by (repeat (first | (with_reducible exact Below.refl _ _) | ((with_reducible refine below_setRow ?_ ?_ _); rotate_left; (focus (first | omega | (simp; done) | (simp; omega)))) | ((with_reducible refine Below.setCell ?_ ?_ _); rotate_left; (focus (first | omega | (simp; done) | (simp; omega)))) | ((with_reducible refine Below.alloc ?_ ?_ _); rotate_left; (focus (first | omega | (simp; done) | (simp; omega)))) | (with_reducible refine below_drewN ?_ _))))) (HB1.out.mono (by (focus (first | omega | (simp; done) | (simp; omega))))))
    rw [hd]
    go_wp2_with (first | (refine wpList_build0_blk rfl 22 rfl built6 ?_) | (refine wpList_store_blk rfl 22 _ _ rfl (R1.out) rfl rfl sz6 (fun _ _ => rfl) ?_) | fail)
    exact post_blk_tmp rfl (R1.out.setRow _) rfl Try.underlying22 sz6 rfl ⟨rfl, below_setRow HB1.out (by (focus (first | omega | (simp; done) | (simp; omega)))) _⟩
  · have HS := Lib.hid (small_of hd)
    obtain ⟨a1, a2⟩ := small_of hd 0 (by omega)
    obtain ⟨b1, b2⟩ := small_of hd 5 (by omega)
    go_enter Try.func46, Try.ntmps46
    go_wp2_with (first | (refine wpList_alloc_blk rfl 22 rfl zero6 ?_) | (refine wpList_load_blk rfl 22 _ rfl ((Blk.new _ _ _ _).alloc _) rfl Try.underlying22 sz6 ?_) | fail)
    go_at_call 129
    refine (l2Die_any d _).mono ?_
    rintro e w1 ⟨rfl, hb1⟩
    have HB1 := Lib.hid hb1; clear hb1
    have A1 := Lib.hid (show Blk w1 w.heap.size 6 22 (I d) from Blk.below (by (repeat (first | (with_reducible exact Blk.new _ _ _ _) | ((with_reducible refine Blk.newS ?_); (focus (first | rfl | (simp; done)))) | ((with_reducible refine Blk.setRowNew ?_); (focus (first | rfl | (simp; done)))) | ((with_reducible refine Blk.setRowOther ?_ _ _ ?_); rotate_left; (focus (first | omega | (simp; done) | (simp; omega)))) | ((with_reducible refine Blk.other ?_ _ _ ?_); rotate_left; (focus (first | omega | (simp; done) | (simp; omega)))) | (with_reducible refine Blk.alloc ?_ _) | (with_reducible refine Blk.drewN ?_ _)))) HB1.out (by (focus (first | omega | (simp; done) | (simp; omega)))))
    have R1 := Lib.hid (show Blk w1 (w.heap.size + 1) 6 22 (I fun _ => 0) from Blk.below (by (repeat (first | (with_reducible exact Blk.new _ _ _ _) | ((with_reducible refine Blk.newS ?_); (focus (first | rfl | (simp; done)))) | ((with_reducible refine Blk.setRowNew ?_); (focus (first | rfl | (simp; done)))) | ((with_reducible refine Blk.setRowOther ?_ _ _ ?_); rotate_left; (focus (first | omega | (simp; done) | (simp; omega)))) | ((with_reducible refine Blk.other ?_ _ _ ?_); rotate_left; (focus (first | omega | (simp; done) | (simp; omega)))) | (with_reducible refine Blk.alloc ?_ _) | (with_reducible refine Blk.drewN ?_ _)))) HB1.out (by (focus (first | omega | (simp; done) | (simp; omega)))))
    have HB1 := Lib.hid (Below.trans (show Below w.heap.size w _ from (by (repeat (first | (with_reducible exact Below.refl _ _) | ((with_reducible refine below_setRow ?_ ?_ _); rotate_left; (focus (first | omega | (simp; done) | (simp; omega)))) | ((with_reducible refine Below.setCell ?_ ?_ _); rotate_left; (focus (first | omega | (simp; done) | (simp; omega)))) | ((with_reducible refine Below.alloc ?_ ?_ _); rotate_left; (focus (first | omega | (simp; done) | (simp; omega)))) | (with_reducible refine below_drewN ?_ _))))) (HB1.out.mono (by (focus (first | omega | (simp; done) | (simp; omega))))))
    rw [hd]
    clear hd
    go_wp2_with (first | (refine wpList_build0_blk rfl 22 rfl built6 ?_) | (refine wpList_alloc_blk rfl 22 rfl zero6 ?_) | (refine wpList_store_new rfl 22 _ _ rfl rfl rfl (by first | rfl | (simp; done)) sz6 (fun _ _ => rfl) ?_) | fail)
    obtain ⟨B1, hB1⟩ : ∃ b : Nat, b = w1.heap.size := ⟨_, rfl⟩
    have HL := Lib.hid (show w.heap.size + 1 < B1 from hB1 ▸ R1.out.lt)
    rw [← hB1]
    go_loopw [5] (fun i wr => ∃ k : Nat, k ≤ 6 ∧ i = .int .i64 k ∧ Blk wr w.heap.size 6 22 (I d) ∧ Blk wr (w.heap.size + 1) 6 22 (I fun _ => 0) ∧ Blk wr B1 6 22 (I fun j => if j < k then opp d j else 0) ∧ Below w.heap.size w wr) (fun i _ => 6 - (intOf i).toNat)
    case atStart => exact ⟨0, by omega, rfl, A1.out.alloc _, R1.out.alloc _, Blk.ext (f := I fun _ => 0) (Blk.newS hB1.symm) (fun i hi => by simp [I]), HB1.out.alloc (by have := HB1.out.size; omega) _⟩
    case round =>
      obtain ⟨k, hk, rfl, hA, hR, hO, hb⟩ := hrel
      by_cases hlt : k < 6
      · obtain ⟨g1, g2⟩ := HS.out k hlt
        obtain ⟨g3, g4⟩ := HS.out (5 - k) (by omega)
        have c0 : wr.cell? ⟨w.heap.size, 0, none⟩ = some (.int .i64 (d 0)) := hA.cell (by omega)
        have c5 : wr.cell? ⟨w.heap.size, 5, none⟩ = some (.int .i64 (d 5)) := hA.cell (by omega)
        have c1 : wr.cell? ⟨w.heap.size, 5 - k, none⟩ = some (.int .i64 (d (5 - k))) := hA.cell (by omega)
        have cO : wr.cell? ⟨B1, k, none⟩ = some (I (fun j => if j < k then opp d j else 0) k) := hO.cell hlt
        have f0 := hO.free k
        have hl := HL.out
        have HA := Lib.hid hA; have HR := Lib.hid hR; have HO := Lib.hid hO; have HB := Lib.hid hb
        clear hA hR hO hb hB1
        go_wp2
        go_region
        go_wp2
        go_roundw
        case rel =>
          refine ⟨k + 1, by omega, by go_num, HA.out.drew.other _ _ (by (focus (first | omega | (simp; done) | (simp; omega)))), HR.out.drew.other _ _ (by (focus (first | omega | (simp; done) | (simp; omega)))), (HO.out.drew.set (by omega) _).ext (fun i hi => ?_), HB.out.drew.setCell (by (focus (first | omega | (simp; done) | (simp; omega)))) _⟩
          simp only [upd, I, opp]
          by_cases e : i = k
          · rw [if_pos e, if_pos (by omega), e]
          · rw [if_neg e]; by_cases e2 : i < k
            · rw [if_pos e2, if_pos (by omega)]
            · rw [if_neg e2, if_neg (by omega)]
        case measure => simp [intOf]; omega
      · obtain rfl : k = 6 := by omega
        have HA := Lib.hid hA; have HR := Lib.hid hR; have HO := Lib.hid hO; have HB := Lib.hid hb
        clear hA hR hO hb
        go_wp2_with (first | (refine wpList_load_blk rfl 22 _ rfl (HO.out) rfl Try.underlying22 sz6 ?_) | (refine wpList_store_blk rfl 22 _ _ rfl (HR.out) rfl rfl sz6 (fun _ _ => rfl) ?_) | fail)
        refine post_blk_tmp rfl (HR.out.setRow _) rfl Try.underlying22 sz6 rfl ⟨?_, below_setRow HB.out (by (focus (first | omega | (simp; done) | (simp; omega)))) _⟩
        congr 3
end Go.Proofs.Ytmhlfpcndgoemaa
