/- Contracts of functions of this program, used by the laws of this seat. No condition beyond what each theorem states. -/
import Derived.Test.YtmhlfpcndgoemaaTurn2
set_option linter.unusedVariables false
set_option linter.unusedSimpArgs false
set_option linter.unusedSectionVars false
namespace Go.Proofs.Ytmhlfpcndgoemaa
open Go.RowKit

theorem sShift_any (d : Nat → Int) (x : Int) (w : World) : Calls Try.prog 49 #[dieV d, .int .i64 x] w fun e w' => e = .returned (.tuple #[dieV (shiftV d x), .bool (shiftB d x)]) ∧ Below w.heap.size w w' := by
  unfold shiftV
  cases hd : dieB d
  · have hB : shiftB d x = false := by simp [shiftB, hd]
    rw [hB]
    go_enter Try.func49, Try.ntmps49
    go_wp2_with (first | (refine wpList_alloc_blk rfl 22 rfl zero6 ?_) | (refine wpList_load_blk rfl 22 _ rfl ((Blk.new _ _ _ _).alloc _) rfl Try.underlying22 sz6 ?_) | fail)
    go_at_call 129
    refine (l2Die_any d _).mono ?_
    rintro e w1 ⟨rfl, hb1⟩
    have HB1 := Lib.hid hb1; clear hb1
    have R1 := Lib.hid (show Blk w1 (w.heap.size + 1) 6 22 (I fun _ => 0) from Blk.below (by (repeat (first | (with_reducible exact Blk.new _ _ _ _) | ((with_reducible refine Blk.newS ?_); (focus (first | rfl | (simp; done)))) | ((with_reducible refine Blk.setRowNew ?_); (focus (first | rfl | (simp; done)))) | ((with_reducible refine Blk.setRowOther ?_ _ _ ?_); rotate_left; (focus (first | omega | (simp; done) | (simp; omega)))) | ((with_reducible refine Blk.other ?_ _ _ ?_); rotate_left; (focus (first | omega | (simp; done) | (simp; omega)))) | (with_reducible refine Blk.alloc ?_ _) | (with_reducible refine Blk.drewN ?_ _)))) HB1.out (by (focus (first | omega | (simp; done) | (simp; omega)))))
    have HB1 := Lib.hid (Below.trans (show Below w.heap.size w _ from (by (repeat (first | (with_reducible exact Below.refl _ _) | ((with_reducible refine below_setRow ?_ ?_ _); rotate_left; (focus (first | omega | (simp; done) | (simp; omega)))) | ((with_reducible refine Below.setCell ?_ ?_ _); rotate_left; (focus (first | omega | (simp; done) | (simp; omega)))) | ((with_reducible refine Below.alloc ?_ ?_ _); rotate_left; (focus (first | omega | (simp; done) | (simp; omega)))) | (with_reducible refine below_drewN ?_ _))))) (HB1.out.mono (by (focus (first | omega | (simp; done) | (simp; omega))))))
    rw [hd]
    go_wp2_with (first | (refine wpList_build0_blk rfl 22 rfl built6 ?_) | (refine wpList_store_blk rfl 22 _ _ rfl (R1.out) rfl rfl sz6 (fun _ _ => rfl) ?_) | fail)
    exact post_blk_tmp rfl (R1.out.setRow _) rfl Try.underlying22 sz6 rfl ⟨rfl, below_setRow HB1.out (by (focus (first | omega | (simp; done) | (simp; omega)))) _⟩
  · cases hx : (decide (-30 ≤ x) && decide (x ≤ 30))
    · have hB : shiftB d x = false := by simp [shiftB, hd, hx]
      rw [hB]
      go_enter Try.func49, Try.ntmps49
      go_wp2_with (first | (refine wpList_alloc_blk rfl 22 rfl zero6 ?_) | (refine wpList_load_blk rfl 22 _ rfl ((Blk.new _ _ _ _).alloc _) rfl Try.underlying22 sz6 ?_) | fail)
      go_at_call 129
      refine (l2Die_any d _).mono ?_
      rintro e w1 ⟨rfl, hb1⟩
      have HB1 := Lib.hid hb1; clear hb1
      have R1 := Lib.hid (show Blk w1 (w.heap.size + 1) 6 22 (I fun _ => 0) from Blk.below (by (repeat (first | (with_reducible exact Blk.new _ _ _ _) | ((with_reducible refine Blk.newS ?_); (focus (first | rfl | (simp; done)))) | ((with_reducible refine Blk.setRowNew ?_); (focus (first | rfl | (simp; done)))) | ((with_reducible refine Blk.setRowOther ?_ _ _ ?_); rotate_left; (focus (first | omega | (simp; done) | (simp; omega)))) | ((with_reducible refine Blk.other ?_ _ _ ?_); rotate_left; (focus (first | omega | (simp; done) | (simp; omega)))) | (with_reducible refine Blk.alloc ?_ _) | (with_reducible refine Blk.drewN ?_ _)))) HB1.out (by (focus (first | omega | (simp; done) | (simp; omega)))))
      have HB1 := Lib.hid (Below.trans (show Below w.heap.size w _ from (by (repeat (first | (with_reducible exact Below.refl _ _) | ((with_reducible refine below_setRow ?_ ?_ _); rotate_left; (focus (first | omega | (simp; done) | (simp; omega)))) | ((with_reducible refine Below.setCell ?_ ?_ _); rotate_left; (focus (first | omega | (simp; done) | (simp; omega)))) | ((with_reducible refine Below.alloc ?_ ?_ _); rotate_left; (focus (first | omega | (simp; done) | (simp; omega)))) | (with_reducible refine below_drewN ?_ _))))) (HB1.out.mono (by (focus (first | omega | (simp; done) | (simp; omega))))))
      rw [hd]
      go_wp2_with fail
      go_at_call 134
      refine (in_any _ _ _ _).mono ?_
      rintro e w2 ⟨rfl, rfl⟩
      rw [hx]
      go_wp2_with (first | (refine wpList_build0_blk rfl 22 rfl built6 ?_) | (refine wpList_store_blk rfl 22 _ _ rfl (R1.out) rfl rfl sz6 (fun _ _ => rfl) ?_) | fail)
      exact post_blk_tmp rfl (R1.out.setRow _) rfl Try.underlying22 sz6 rfl ⟨rfl, below_setRow HB1.out (by (focus (first | omega | (simp; done) | (simp; omega)))) _⟩
    · have hB : shiftB d x = dieB fun i => d i + x := by simp only [shiftB, hd, hx, Bool.true_and]
      have HS := Lib.hid (small_of hd)
      obtain ⟨x1, x2⟩ : -30 ≤ x ∧ x ≤ 30 := by simpa using hx
      rw [hB]
      go_enter Try.func49, Try.ntmps49
      go_wp2_with (first | (refine wpList_alloc_blk rfl 22 rfl zero6 ?_) | (refine wpList_load_blk rfl 22 _ rfl ((Blk.new _ _ _ _).alloc _) rfl Try.underlying22 sz6 ?_) | fail)
      go_at_call 129
      refine (l2Die_any d _).mono ?_
      rintro e w1 ⟨rfl, hb1⟩
      have HB1 := Lib.hid hb1; clear hb1
      have A1 := Lib.hid (show Blk w1 w.heap.size 6 22 (I d) from Blk.below (by (repeat (first | (with_reducible exact Blk.new _ _ _ _) | ((with_reducible refine Blk.newS ?_); (focus (first | rfl | (simp; done)))) | ((with_reducible refine Blk.setRowNew ?_); (focus (first | rfl | (simp; done)))) | ((with_reducible refine Blk.setRowOther ?_ _ _ ?_); rotate_left; (focus (first | omega | (simp; done) | (simp; omega)))) | ((with_reducible refine Blk.other ?_ _ _ ?_); rotate_left; (focus (first | omega | (simp; done) | (simp; omega)))) | (with_reducible refine Blk.alloc ?_ _) | (with_reducible refine Blk.drewN ?_ _)))) HB1.out (by (focus (first | omega | (simp; done) | (simp; omega)))))
      have R1 := Lib.hid (show Blk w1 (w.heap.size + 1) 6 22 (I fun _ => 0) from Blk.below (by (repeat (first | (with_reducible exact Blk.new _ _ _ _) | ((with_reducible refine Blk.newS ?_); (focus (first | rfl | (simp; done)))) | ((with_reducible refine Blk.setRowNew ?_); (focus (first | rfl | (simp; done)))) | ((with_reducible refine Blk.setRowOther ?_ _ _ ?_); rotate_left; (focus (first | omega | (simp; done) | (simp; omega)))) | ((with_reducible refine Blk.other ?_ _ _ ?_); rotate_left; (focus (first | omega | (simp; done) | (simp; omega)))) | (with_reducible refine Blk.alloc ?_ _) | (with_reducible refine Blk.drewN ?_ _)))) HB1.out (by (focus (first | omega | (simp; done) | (simp; omega)))))
      have HB1 := Lib.hid (Below.trans (show Below w.heap.size w _ from (by (repeat (first | (with_reducible exact Below.refl _ _) | ((with_reducible refine below_setRow ?_ ?_ _); rotate_left; (focus (first | omega | (simp; done) | (simp; omega)))) | ((with_reducible refine Below.setCell ?_ ?_ _); rotate_left; (focus (first | omega | (simp; done) | (simp; omega)))) | ((with_reducible refine Below.alloc ?_ ?_ _); rotate_left; (focus (first | omega | (simp; done) | (simp; omega)))) | (with_reducible refine below_drewN ?_ _))))) (HB1.out.mono (by (focus (first | omega | (simp; done) | (simp; omega))))))
      rw [hd]
      go_wp2_with fail
      go_at_call 134
      refine (in_any _ _ _ _).mono ?_
      rintro e w2 ⟨rfl, rfl⟩
      rw [hx]
      clear hd hx hB
      go_wp2
      go_loopw [6] (fun i wr => ∃ k : Nat, k ≤ 6 ∧ i = .int .i64 k ∧ Blk wr w.heap.size 6 22 (I fun j => if j < k then d j + x else d j) ∧ Blk wr (w.heap.size + 1) 6 22 (I fun _ => 0) ∧ Below w.heap.size w wr) (fun i _ => 6 - (intOf i).toNat)
      case atStart => exact ⟨0, by omega, rfl, A1.out.ext (fun i _ => by simp [I]), R1.out, HB1.out⟩
      case round =>
        obtain ⟨k, hk, rfl, hA, hR, hb⟩ := hrel
        by_cases hlt : k < 6
        · obtain ⟨g1, g2⟩ := HS.out k hlt
          have c0 : wr.cell? ⟨w.heap.size, k, none⟩ = some (.int .i64 (d k)) := by rw [hA.cell hlt]; simp [I]
          have f0 := hA.free k
          have HA := Lib.hid hA; have HR := Lib.hid hR; have HB := Lib.hid hb
          clear hA hR hb
          go_wp2
          go_roundw
          case rel =>
            refine ⟨k + 1, by omega, by go_num, (HA.out.set hlt _).ext (fun i _ => ?_), HR.out.other _ _ (by (focus (first | omega | (simp; done) | (simp; omega)))), HB.out.setCell (by (focus (first | omega | (simp; done) | (simp; omega)))) _⟩
            simp only [upd, I]
            by_cases e : i = k
            · subst e; simp
            · rw [if_neg e]; by_cases e2 : i < k
              · rw [if_pos e2, if_pos (by omega)]
              · rw [if_neg e2, if_neg (by omega)]
          case measure => simp [intOf]; omega
        · obtain rfl : k = 6 := by omega
          have A0 := Lib.hid (hA.ext (g := I fun i => d i + x) (fun i hi => by simp [I, hi])); have R0 := Lib.hid hR; have HB0 := Lib.hid hb
          clear hA hR hb
          go_wp2_with (first | (refine wpList_load_blk rfl 22 _ rfl (A0.out) rfl Try.underlying22 sz6 ?_) | fail)
          go_at_call 129
          refine (l2Die_any (fun i => d i + x) _).mono ?_
          rintro e w3 ⟨rfl, hb3⟩
          have A3 := Lib.hid (A0.out.below hb3 A0.out.lt)
          have R3 := Lib.hid (R0.out.below hb3 R0.out.lt)
          have HB3 := Lib.hid (HB0.out.trans (hb3.mono HB0.out.size)); clear hb3
          cases hz : dieB fun i => d i + x
          · skip
            go_wp2_with (first | (refine wpList_build0_blk rfl 22 rfl built6 ?_) | (refine wpList_store_blk rfl 22 _ _ rfl (R3.out) rfl rfl sz6 (fun _ _ => rfl) ?_) | fail)
            all_goals exact post_blk_tmp rfl (R3.out.setRow _) rfl Try.underlying22 sz6 rfl ⟨rfl, below_setRow HB3.out (by (focus (first | omega | (simp; done) | (simp; omega)))) _⟩
          · skip
            go_wp2_with (first | (refine wpList_load_blk rfl 22 _ rfl (A3.out) rfl Try.underlying22 sz6 ?_) | (refine wpList_store_blk rfl 22 _ _ rfl (R3.out) rfl rfl sz6 (fun _ _ => rfl) ?_) | fail)
            all_goals exact post_blk_tmp rfl (R3.out.setRow _) rfl Try.underlying22 sz6 rfl ⟨rfl, below_setRow HB3.out (by (focus (first | omega | (simp; done) | (simp; omega)))) _⟩

theorem iShift_any (d : Nat → Int) (x : Int) (w : World) : Calls Try.prog 50 #[dieV d, .int .i64 x] w fun e w' => e = .returned (.tuple #[dieV (shiftV d x), .bool (shiftB d x)]) ∧ Below w.heap.size w w' := by
  unfold shiftV
  cases hd : dieB d
  · have hB : shiftB d x = false := by simp [shiftB, hd]
    rw [hB]
    go_enter Try.func50, Try.ntmps50
    go_wp2_with (first | (refine wpList_alloc_blk rfl 22 rfl zero6 ?_) | (refine wpList_load_blk rfl 22 _ rfl ((Blk.new _ _ _ _).alloc _) rfl Try.underlying22 sz6 ?_) | fail)
    go_at_call 40
    refine (isDie_any d _).mono ?_
    rintro e w1 ⟨rfl, hb1⟩
    have HB1 := Lib.hid hb1; clear hb1
    have R1 := Lib.hid (show Blk w1 (w.heap.size + 1) 6 22 (I fun _ => 0) from Blk.below (by (repeat (first | (with_reducible exact Blk.new _ _ _ _) | ((with_reducible refine Blk.newS ?_); (focus (first | rfl | (simp; done)))) | ((with_reducible refine Blk.setRowNew ?_); (focus (first | rfl | (simp; done)))) | ((with_reducible refine Blk.setRowOther ?_ _ _ ?_); rotate_left; (focus (first | omega | (simp; done) | (simp; omega)))) | ((with_reducible refine Blk.other ?_ _ _ ?_); rotate_left; (focus (first | omega | (simp; done) | (simp; omega)))) | (with_reducible refine Blk.alloc ?_ _) | (with_reducible refine Blk.drewN ?_ _)))) HB1.out (by (focus (first | omega | (simp; done) | (simp; omega)))))
    have HB1 := Lib.hid (Below.trans (show Below w.heap.size w _ from (by (repeat (first | (with_reducible exact Below.refl _ _) | ((with_reducible refine below_setRow ?_ ?_ _); rotate_left; (focus (first | omega | (simp; done) | (simp; omega)))) | ((with_reducible refine Below.setCell ?_ ?_ _); rotate_left; (focus (first | omega | (simp; done) | (simp; omega)))) | ((with_reducible refine Below.alloc ?_ ?_ _); rotate_left; (focus (first | omega | (simp; done) | (simp; omega)))) | (with_reducible refine below_drewN ?_ _))))) (HB1.out.mono (by (focus (first | omega | (simp; done) | (simp; omega))))))
    rw [hd]
    go_wp2_with (first | (refine wpList_build0_blk rfl 22 rfl built6 ?_) | (refine wpList_store_blk rfl 22 _ _ rfl (R1.out) rfl rfl sz6 (fun _ _ => rfl) ?_) | fail)
    exact post_blk_tmp rfl (R1.out.setRow _) rfl Try.underlying22 sz6 rfl ⟨rfl, below_setRow HB1.out (by (focus (first | omega | (simp; done) | (simp; omega)))) _⟩
  · cases hx : (decide (-30 ≤ x) && decide (x ≤ 30))
    · have hB : shiftB d x = false := by simp [shiftB, hd, hx]
      rw [hB]
      go_enter Try.func50, Try.ntmps50
      go_wp2_with (first | (refine wpList_alloc_blk rfl 22 rfl zero6 ?_) | (refine wpList_load_blk rfl 22 _ rfl ((Blk.new _ _ _ _).alloc _) rfl Try.underlying22 sz6 ?_) | fail)
      go_at_call 40
      refine (isDie_any d _).mono ?_
      rintro e w1 ⟨rfl, hb1⟩
      have HB1 := Lib.hid hb1; clear hb1
      have R1 := Lib.hid (show Blk w1 (w.heap.size + 1) 6 22 (I fun _ => 0) from Blk.below (by (repeat (first | (with_reducible exact Blk.new _ _ _ _) | ((with_reducible refine Blk.newS ?_); (focus (first | rfl | (simp; done)))) | ((with_reducible refine Blk.setRowNew ?_); (focus (first | rfl | (simp; done)))) | ((with_reducible refine Blk.setRowOther ?_ _ _ ?_); rotate_left; (focus (first | omega | (simp; done) | (simp; omega)))) | ((with_reducible refine Blk.other ?_ _ _ ?_); rotate_left; (focus (first | omega | (simp; done) | (simp; omega)))) | (with_reducible refine Blk.alloc ?_ _) | (with_reducible refine Blk.drewN ?_ _)))) HB1.out (by (focus (first | omega | (simp; done) | (simp; omega)))))
      have HB1 := Lib.hid (Below.trans (show Below w.heap.size w _ from (by (repeat (first | (with_reducible exact Below.refl _ _) | ((with_reducible refine below_setRow ?_ ?_ _); rotate_left; (focus (first | omega | (simp; done) | (simp; omega)))) | ((with_reducible refine Below.setCell ?_ ?_ _); rotate_left; (focus (first | omega | (simp; done) | (simp; omega)))) | ((with_reducible refine Below.alloc ?_ ?_ _); rotate_left; (focus (first | omega | (simp; done) | (simp; omega)))) | (with_reducible refine below_drewN ?_ _))))) (HB1.out.mono (by (focus (first | omega | (simp; done) | (simp; omega))))))
      rw [hd]
      go_wp2_with fail
      go_at_call 135
      refine (within_any _ _ _ _).mono ?_
      rintro e w2 ⟨rfl, rfl⟩
      rw [hx]
      go_wp2_with (first | (refine wpList_build0_blk rfl 22 rfl built6 ?_) | (refine wpList_store_blk rfl 22 _ _ rfl (R1.out) rfl rfl sz6 (fun _ _ => rfl) ?_) | fail)
      exact post_blk_tmp rfl (R1.out.setRow _) rfl Try.underlying22 sz6 rfl ⟨rfl, below_setRow HB1.out (by (focus (first | omega | (simp; done) | (simp; omega)))) _⟩
    · have hB : shiftB d x = dieB fun i => d i + x := by simp only [shiftB, hd, hx, Bool.true_and]
      have HS := Lib.hid (small_of hd)
      obtain ⟨x1, x2⟩ : -30 ≤ x ∧ x ≤ 30 := by simpa using hx
      rw [hB]
      go_enter Try.func50, Try.ntmps50
      go_wp2_with (first | (refine wpList_alloc_blk rfl 22 rfl zero6 ?_) | (refine wpList_load_blk rfl 22 _ rfl ((Blk.new _ _ _ _).alloc _) rfl Try.underlying22 sz6 ?_) | fail)
      go_at_call 40
      refine (isDie_any d _).mono ?_
      rintro e w1 ⟨rfl, hb1⟩
      have HB1 := Lib.hid hb1; clear hb1
      have A1 := Lib.hid (show Blk w1 w.heap.size 6 22 (I d) from Blk.below (by (repeat (first | (with_reducible exact Blk.new _ _ _ _) | ((with_reducible refine Blk.newS ?_); (focus (first | rfl | (simp; done)))) | ((with_reducible refine Blk.setRowNew ?_); (focus (first | rfl | (simp; done)))) | ((with_reducible refine Blk.setRowOther ?_ _ _ ?_); rotate_left; (focus (first | omega | (simp; done) | (simp; omega)))) | ((with_reducible refine Blk.other ?_ _ _ ?_); rotate_left; (focus (first | omega | (simp; done) | (simp; omega)))) | (with_reducible refine Blk.alloc ?_ _) | (with_reducible refine Blk.drewN ?_ _)))) HB1.out (by (focus (first | omega | (simp; done) | (simp; omega)))))
      have R1 := Lib.hid (show Blk w1 (w.heap.size + 1) 6 22 (I fun _ => 0) from Blk.below (by (repeat (first | (with_reducible exact Blk.new _ _ _ _) | ((with_reducible refine Blk.newS ?_); (focus (first | rfl | (simp; done)))) | ((with_reducible refine Blk.setRowNew ?_); (focus (first | rfl | (simp; done)))) | ((with_reducible refine Blk.setRowOther ?_ _ _ ?_); rotate_left; (focus (first | omega | (simp; done) | (simp; omega)))) | ((with_reducible refine Blk.other ?_ _ _ ?_); rotate_left; (focus (first | omega | (simp; done) | (simp; omega)))) | (with_reducible refine Blk.alloc ?_ _) | (with_reducible refine Blk.drewN ?_ _)))) HB1.out (by (focus (first | omega | (simp; done) | (simp; omega)))))
      have HB1 := Lib.hid (Below.trans (show Below w.heap.size w _ from (by (repeat (first | (with_reducible exact Below.refl _ _) | ((with_reducible refine below_setRow ?_ ?_ _); rotate_left; (focus (first | omega | (simp; done) | (simp; omega)))) | ((with_reducible refine Below.setCell ?_ ?_ _); rotate_left; (focus (first | omega | (simp; done) | (simp; omega)))) | ((with_reducible refine Below.alloc ?_ ?_ _); rotate_left; (focus (first | omega | (simp; done) | (simp; omega)))) | (with_reducible refine below_drewN ?_ _))))) (HB1.out.mono (by (focus (first | omega | (simp; done) | (simp; omega))))))
      rw [hd]
      go_wp2_with fail
      go_at_call 135
      refine (within_any _ _ _ _).mono ?_
      rintro e w2 ⟨rfl, rfl⟩
      rw [hx]
      clear hd hx hB
      go_wp2_with (first | (refine wpList_load_blk rfl 22 _ rfl (A1.out) rfl Try.underlying22 sz6 ?_) | fail)
      go_at_call 136
      refine (shifted_any d x HS.out (by omega) (by omega) _).mono ?_
      rintro e w3 ⟨rfl, hb3⟩
      have A3 := Lib.hid (A1.out.below hb3 A1.out.lt)
      have R3 := Lib.hid (R1.out.below hb3 R1.out.lt)
      have HB3 := Lib.hid (HB1.out.trans (hb3.mono HB1.out.size)); clear hb3
      go_wp2_with fail
      go_at_call 40
      refine (isDie_any _ _).mono ?_
      rintro e w4 ⟨rfl, hb4⟩
      have A4 := Lib.hid (A3.out.below hb4 A3.out.lt)
      have R4 := Lib.hid (R3.out.below hb4 R3.out.lt)
      have HB4 := Lib.hid (HB3.out.trans (hb4.mono HB3.out.size)); clear hb4
      cases hz : dieB fun i => d i + x
      · skip
        go_wp2_with (first | (refine wpList_build0_blk rfl 22 rfl built6 ?_) | (refine wpList_store_blk rfl 22 _ _ rfl (R4.out) rfl rfl sz6 (fun _ _ => rfl) ?_) | fail)
        all_goals exact post_blk_tmp rfl (R4.out.setRow _) rfl Try.underlying22 sz6 rfl ⟨rfl, below_setRow HB4.out (by (focus (first | omega | (simp; done) | (simp; omega)))) _⟩
      · skip
        go_wp2_with (first | (refine wpList_load_blk rfl 22 _ rfl (A4.out) rfl Try.underlying22 sz6 ?_) | fail)
        go_at_call 136
        refine (shifted_any d x HS.out (by omega) (by omega) _).mono ?_
        rintro e w5 ⟨rfl, hb5⟩
        have R5 := Lib.hid (R4.out.below hb5 R4.out.lt)
        have HB5 := Lib.hid (HB4.out.trans (hb5.mono HB4.out.size)); clear hb5
        go_wp2_with (first | (refine wpList_store_blk rfl 22 _ _ rfl (R5.out) rfl rfl sz6 (fun _ _ => rfl) ?_) | fail)
        exact post_blk_tmp rfl (R5.out.setRow _) rfl Try.underlying22 sz6 rfl ⟨rfl, below_setRow HB5.out (by (focus (first | omega | (simp; done) | (simp; omega)))) _⟩
end Go.Proofs.Ytmhlfpcndgoemaa
