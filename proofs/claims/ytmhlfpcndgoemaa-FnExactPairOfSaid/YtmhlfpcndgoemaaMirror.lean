/- Contracts of functions of this program, used by the laws of this seat. No condition beyond what each theorem states. -/
import Derived.Test.YtmhlfpcndgoemaaShape
set_option linter.unusedVariables false
set_option linter.unusedSimpArgs false
set_option linter.unusedSectionVars false
namespace Go.Proofs.Ytmhlfpcndgoemaa
open Go.RowKit
theorem sMirrorPair_any (a b : Nat → Int) (w : World) : Calls Try.prog 91 #[pairV a b] w fun e w' => e = .returned (.tuple #[.agg (row 12 (I (mirrorV a b))), .bool (goodB a b)]) ∧ Below w.heap.size w w' := by
  cases hq : goodB a b
  · have HV := Lib.hid (show mirrorV a b = fun _ => 0 by unfold mirrorV; rw [hq]; rfl)
    rw [HV.out]
    go_enter Try.func91, Try.ntmps91
    go_wp2_with (first | (refine wpList_alloc_blk rfl 44 rfl zeroP ?_) | (refine wpList_load_part rfl 44 _ rfl ((Blk.new _ _ _ _).alloc _) rfl (Nat.le_of_ble_eq_true rfl) Try.isAgg44 szP (fun i _ => congrArg _ (Nat.zero_add i)) ?_) | fail)
    go_at_call 141
    refine (l5Good_any a b _).mono ?_
    rintro e w1 ⟨rfl, hb1⟩
    have HB1 := Lib.hid hb1; clear hb1
    have A1 := Lib.hid (show Blk w1 w.heap.size 12 44 (I (pairF a b)) from Blk.below (by (repeat (first | (with_reducible exact Blk.new _ _ _ _) | ((with_reducible refine Blk.newS ?_); (focus (first | rfl | (simp; done)))) | ((with_reducible refine Blk.setRowNew ?_); (focus (first | rfl | (simp; done)))) | ((with_reducible refine Blk.setRowOther ?_ _ _ ?_); rotate_left; (focus (first | omega | (simp; done) | (simp; omega)))) | ((with_reducible refine Blk.other ?_ _ _ ?_); rotate_left; (focus (first | omega | (simp; done) | (simp; omega)))) | (with_reducible refine Blk.alloc ?_ _) | (with_reducible refine Blk.drewN ?_ _)))) HB1.out (by (focus (first | omega | (simp; done) | (simp; omega)))))
    have R1 := Lib.hid (show Blk w1 (w.heap.size + 1) 12 44 (I fun _ => 0) from Blk.below (by (repeat (first | (with_reducible exact Blk.new _ _ _ _) | ((with_reducible refine Blk.newS ?_); (focus (first | rfl | (simp; done)))) | ((with_reducible refine Blk.setRowNew ?_); (focus (first | rfl | (simp; done)))) | ((with_reducible refine Blk.setRowOther ?_ _ _ ?_); rotate_left; (focus (first | omega | (simp; done) | (simp; omega)))) | ((with_reducible refine Blk.other ?_ _ _ ?_); rotate_left; (focus (first | omega | (simp; done) | (simp; omega)))) | (with_reducible refine Blk.alloc ?_ _) | (with_reducible refine Blk.drewN ?_ _)))) HB1.out (by (focus (first | omega | (simp; done) | (simp; omega)))))
    have HB1 := Lib.hid (Below.trans (show Below w.heap.size w _ from (by (repeat (first | (with_reducible exact Below.refl _ _) | ((with_reducible refine below_setRow ?_ ?_ _); rotate_left; (focus (first | omega | (simp; done) | (simp; omega)))) | ((with_reducible refine Below.setCell ?_ ?_ _); rotate_left; (focus (first | omega | (simp; done) | (simp; omega)))) | ((with_reducible refine Below.alloc ?_ ?_ _); rotate_left; (focus (first | omega | (simp; done) | (simp; omega)))) | (with_reducible refine below_drewN ?_ _))))) (HB1.out.mono (by (focus (first | omega | (simp; done) | (simp; omega))))))
    rw [hq]
    go_wp2_with (first | (refine wpList_build0_blk rfl 44 rfl builtP ?_) | (refine wpList_store_blk rfl 44 _ _ rfl (R1.out) rfl rfl szP (fun _ _ => rfl) ?_) | fail)
    exact post_agg_tmp rfl (R1.out.setRow _) rfl Try.isAgg44 szP rfl ⟨rfl, below_setRow HB1.out (by (focus (first | omega | (simp; done) | (simp; omega)))) _⟩
  · have HV := Lib.hid (show mirrorV a b = opairF (oppV a) (oppV b) by unfold mirrorV oppV; rw [hq, goodA hq, goodD hq]; rfl)
    rw [HV.out]
    go_enter Try.func91, Try.ntmps91
    go_wp2_with (first | (refine wpList_alloc_blk rfl 44 rfl zeroP ?_) | (refine wpList_load_part rfl 44 _ rfl ((Blk.new _ _ _ _).alloc _) rfl (Nat.le_of_ble_eq_true rfl) Try.isAgg44 szP (fun i _ => congrArg _ (Nat.zero_add i)) ?_) | fail)
    go_at_call 141
    refine (l5Good_any a b _).mono ?_
    rintro e w1 ⟨rfl, hb1⟩
    have HB1 := Lib.hid hb1; clear hb1
    have A1 := Lib.hid (show Blk w1 w.heap.size 12 44 (I (pairF a b)) from Blk.below (by (repeat (first | (with_reducible exact Blk.new _ _ _ _) | ((with_reducible refine Blk.newS ?_); (focus (first | rfl | (simp; done)))) | ((with_reducible refine Blk.setRowNew ?_); (focus (first | rfl | (simp; done)))) | ((with_reducible refine Blk.setRowOther ?_ _ _ ?_); rotate_left; (focus (first | omega | (simp; done) | (simp; omega)))) | ((with_reducible refine Blk.other ?_ _ _ ?_); rotate_left; (focus (first | omega | (simp; done) | (simp; omega)))) | (with_reducible refine Blk.alloc ?_ _) | (with_reducible refine Blk.drewN ?_ _)))) HB1.out (by (focus (first | omega | (simp; done) | (simp; omega)))))
    have R1 := Lib.hid (show Blk w1 (w.heap.size + 1) 12 44 (I fun _ => 0) from Blk.below (by (repeat (first | (with_reducible exact Blk.new _ _ _ _) | ((with_reducible refine Blk.newS ?_); (focus (first | rfl | (simp; done)))) | ((with_reducible refine Blk.setRowNew ?_); (focus (first | rfl | (simp; done)))) | ((with_reducible refine Blk.setRowOther ?_ _ _ ?_); rotate_left; (focus (first | omega | (simp; done) | (simp; omega)))) | ((with_reducible refine Blk.other ?_ _ _ ?_); rotate_left; (focus (first | omega | (simp; done) | (simp; omega)))) | (with_reducible refine Blk.alloc ?_ _) | (with_reducible refine Blk.drewN ?_ _)))) HB1.out (by (focus (first | omega | (simp; done) | (simp; omega)))))
    have HB1 := Lib.hid (Below.trans (show Below w.heap.size w _ from (by (repeat (first | (with_reducible exact Below.refl _ _) | ((with_reducible refine below_setRow ?_ ?_ _); rotate_left; (focus (first | omega | (simp; done) | (simp; omega)))) | ((with_reducible refine Below.setCell ?_ ?_ _); rotate_left; (focus (first | omega | (simp; done) | (simp; omega)))) | ((with_reducible refine Below.alloc ?_ ?_ _); rotate_left; (focus (first | omega | (simp; done) | (simp; omega)))) | (with_reducible refine below_drewN ?_ _))))) (HB1.out.mono (by (focus (first | omega | (simp; done) | (simp; omega))))))
    rw [hq]
    clear hq
    go_wp2_with (first | (refine wpList_load_part rfl 22 _ rfl (A1.out) rfl (Nat.le_of_ble_eq_true rfl) Try.isAgg22 sz6 (pairA a b) ?_) | fail)
    go_at_call 46
    refine (sOpposite_any a _).mono ?_
    rintro e w2 ⟨rfl, hb2⟩
    have A2 := Lib.hid (A1.out.below hb2 A1.out.lt)
    have R2 := Lib.hid (R1.out.below hb2 R1.out.lt)
    have HB2 := Lib.hid (HB1.out.trans (hb2.mono HB1.out.size)); clear hb2
    go_wp2_with (first | (refine wpList_alloc_blk rfl 22 rfl zero6 ?_) | (refine wpList_store_new rfl 22 _ _ rfl rfl rfl (by first | rfl | (simp; done)) sz6 (fun _ _ => rfl) ?_) | (refine wpList_load_part rfl 22 _ rfl (A2.out.alloc _) rfl (Nat.le_of_ble_eq_true rfl) Try.isAgg22 sz6 (pairB a b) ?_) | fail)
    go_at_call 46
    refine (sOpposite_any b _).mono ?_
    rintro e w3 ⟨rfl, hb3⟩
    have V3 := Lib.hid (show Blk w3 w2.heap.size 6 22 (I (oppV a)) from Blk.below (Blk.new _ _ _ _) hb3 (by (focus (first | omega | (simp; done) | (simp; omega)))))
    have R3 := Lib.hid ((R2.out.alloc _).below hb3 (by have := R2.out.lt; simp; omega))
    have HB3 := Lib.hid (Below.trans (HB2.out.alloc (by have := HB2.out.size; omega) _) (hb3.mono (by have := HB2.out.size; simp; omega))); clear hb3
    go_wp2_with (first | (refine wpList_alloc_blk rfl 22 rfl zero6 ?_) | (refine wpList_store_new rfl 22 _ _ rfl rfl rfl (by first | rfl | (simp; done)) sz6 (fun _ _ => rfl) ?_) | (refine wpList_load_blk rfl 22 _ rfl (Blk.new _ _ _ _) rfl Try.underlying22 sz6 ?_) | (refine wpList_load_blk rfl 22 _ rfl (V3.out.alloc _) rfl Try.underlying22 sz6 ?_) | fail)
    go_at_call 149
    refine (l5Pair_any (oppV a) (oppV b) _).mono ?_
    rintro e w4 ⟨rfl, hb4⟩
    have R4 := Lib.hid ((R3.out.alloc _).below hb4 (by have := R3.out.lt; simp; omega))
    have HB4 := Lib.hid (Below.trans (HB3.out.alloc (by have := HB3.out.size; omega) _) (hb4.mono (by have := HB3.out.size; simp; omega))); clear hb4
    go_wp2_with (first | (refine wpList_store_blk rfl 44 _ _ rfl (R4.out) rfl rfl szP (fun _ _ => rfl) ?_) | fail)
    exact post_agg_tmp rfl (R4.out.setRow _) rfl Try.isAgg44 szP rfl ⟨rfl, below_setRow HB4.out (by (focus (first | omega | (simp; done) | (simp; omega)))) _⟩
end Go.Proofs.Ytmhlfpcndgoemaa
