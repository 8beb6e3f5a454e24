/- Contracts of functions of this program, used by the laws of this seat. No condition beyond what each theorem states. -/
import Derived.Test.YtmhlfpcndgoemaaCount
import Derived.StillTailTactics
import Derived.RegionTactic
import Derived.BigRegion
set_option linter.unusedVariables false
set_option linter.unusedSimpArgs false
set_option linter.unusedSectionVars false
namespace Go.Proofs.Ytmhlfpcndgoemaa
open Go.RowKit

def Small (d : Nat → Int) : Prop := ∀ k, k < 6 → 0 ≤ d k ∧ d k ≤ 30
theorem small_of {d : Nat → Int} (h : dieB d = true) : Small d := fun _ hk => dieB_ok h hk

/-! ### shifted -/
theorem shifted_any (d : Nat → Int) (x : Int) (h : Small d) (h1 : -1000 ≤ x) (h2 : x ≤ 1000) (w : World) :
    Calls Try.prog 136 #[dieV d, .int .i64 x] w fun e w' => e = .returned (dieV fun i => d i + x) ∧ Below w.heap.size w w' := by
  have HS := Lib.hid h; clear h
  go_enter Try.func136, Try.ntmps136
  go_wp2_with (first | (refine wpList_alloc_blk rfl 22 rfl zero6 ?_) | fail)
  go_loopw [6] (fun i wr => ∃ k : Nat, k ≤ 6 ∧ i = .int .i64 k ∧ Blk wr w.heap.size 6 22 (I fun j => if j < k then d j + x else d j) ∧ Blk wr (w.heap.size + 1) 6 22 (I fun _ => 0) ∧ Below w.heap.size w wr) (fun i _ => 6 - (intOf i).toNat)
  case atStart => exact ⟨0, by omega, rfl, Blk.ext (f := I d) (by (repeat (first | (with_reducible exact Blk.new _ _ _ _) | ((with_reducible refine Blk.newS ?_); (focus (first | rfl | (simp; done)))) | ((with_reducible refine Blk.setRowNew ?_); (focus (first | rfl | (simp; done)))) | ((with_reducible refine Blk.setRowOther ?_ _ _ ?_); rotate_left; (focus (first | omega | (simp; done) | (simp; omega)))) | ((with_reducible refine Blk.other ?_ _ _ ?_); rotate_left; (focus (first | omega | (simp; done) | (simp; omega)))) | (with_reducible refine Blk.alloc ?_ _) | (with_reducible refine Blk.drewN ?_ _)))) (fun i _ => by simp [I]), (by (repeat (first | (with_reducible exact Blk.new _ _ _ _) | ((with_reducible refine Blk.newS ?_); (focus (first | rfl | (simp; done)))) | ((with_reducible refine Blk.setRowNew ?_); (focus (first | rfl | (simp; done)))) | ((with_reducible refine Blk.setRowOther ?_ _ _ ?_); rotate_left; (focus (first | omega | (simp; done) | (simp; omega)))) | ((with_reducible refine Blk.other ?_ _ _ ?_); rotate_left; (focus (first | omega | (simp; done) | (simp; omega)))) | (with_reducible refine Blk.alloc ?_ _) | (with_reducible refine Blk.drewN ?_ _)))), (by (repeat (first | (with_reducible exact Below.refl _ _) | ((with_reducible refine below_setRow ?_ ?_ _); rotate_left; (focus (first | omega | (simp; done) | (simp; omega)))) | ((with_reducible refine Below.setCell ?_ ?_ _); rotate_left; (focus (first | omega | (simp; done) | (simp; omega)))) | ((with_reducible refine Below.alloc ?_ ?_ _); rotate_left; (focus (first | omega | (simp; done) | (simp; omega)))) | (with_reducible refine below_drewN ?_ _))))⟩
  case round =>
    obtain ⟨k, hk, rfl, hA, hR, hb⟩ := hrel
    by_cases hlt : k < 6
    · obtain ⟨g1, g2⟩ := HS.out k hlt
      have c0 : wr.cell? ⟨w.heap.size, k, none⟩ = some (.int .i64 (d k)) := by rw [hA.cell hlt]; simp [I]
      have f0 := hA.free k
      have HA := Lib.hid hA; have HR := Lib.hid hR; have HB := Lib.hid hb
      clear hA hR hb
      go_wp2
      go_roundw
      case rel =>
        refine ⟨k + 1, by omega, by go_num, (HA.out.set hlt _).ext (fun i _ => ?_), HR.out.other _ _ (by (focus (first | omega | (simp; done) | (simp; omega)))), HB.out.setCell (by (focus (first | omega | (simp; done) | (simp; omega)))) _⟩
        simp only [upd, I]
        by_cases e : i = k
        · subst e; simp
        · rw [if_neg e]; by_cases e2 : i < k
          · rw [if_pos e2, if_pos (by omega)]
          · rw [if_neg e2, if_neg (by omega)]
      case measure => simp [intOf]; omega
    · obtain rfl : k = 6 := by omega
      have HA := Lib.hid hA; have HR := Lib.hid hR; have HB := Lib.hid hb
      clear hA hR hb
      go_wp2_with (first | (refine wpList_load_blk rfl 22 _ rfl (HA.out) rfl Try.underlying22 sz6 ?_) | (refine wpList_store_blk rfl 22 _ _ rfl (HR.out) rfl rfl sz6 (fun _ _ => rfl) ?_) | fail)
      exact post_blk rfl (HR.out.setRow _) rfl Try.underlying22 sz6 rfl ⟨by congr 2, below_setRow HB.out (by (focus (first | omega | (simp; done) | (simp; omega)))) _⟩

/-! ### opposite -/
def opp (d : Nat → Int) (i : Nat) : Int := d 0 + d 5 - d (5 - i)
theorem opposite_any (d : Nat → Int) (h : Small d) (w : World) :
    Calls Try.prog 133 #[dieV d] w fun e w' => e = .returned (dieV (opp d)) ∧ Below w.heap.size w w' := by
  have HS := Lib.hid h
  obtain ⟨a1, a2⟩ := h 0 (by omega)
  obtain ⟨b1, b2⟩ := h 5 (by omega)
  clear h
  go_enter Try.func133, Try.ntmps133
  go_wp2_with (first | (refine wpList_alloc_blk rfl 22 rfl zero6 ?_) | (refine wpList_load_blk rfl 22 _ rfl (((Blk.new _ _ _ _).alloc _).alloc _) rfl Try.underlying22 sz6 ?_) | fail)
  go_loopw [7] (fun i wr => ∃ k : Nat, k ≤ 6 ∧ i = .int .i64 k ∧ Blk wr w.heap.size 6 22 (I d) ∧ Blk wr (w.heap.size + 1) 6 22 (I fun _ => 0) ∧ Blk wr (w.heap.size + 1 + 1) 6 22 (I fun j => if 5 < j + k then opp d j else 0) ∧ Below w.heap.size w wr) (fun i _ => 6 - (intOf i).toNat)
  case atStart => exact ⟨0, by omega, rfl, (by (repeat (first | (with_reducible exact Blk.new _ _ _ _) | ((with_reducible refine Blk.newS ?_); (focus (first | rfl | (simp; done)))) | ((with_reducible refine Blk.setRowNew ?_); (focus (first | rfl | (simp; done)))) | ((with_reducible refine Blk.setRowOther ?_ _ _ ?_); rotate_left; (focus (first | omega | (simp; done) | (simp; omega)))) | ((with_reducible refine Blk.other ?_ _ _ ?_); rotate_left; (focus (first | omega | (simp; done) | (simp; omega)))) | (with_reducible refine Blk.alloc ?_ _) | (with_reducible refine Blk.drewN ?_ _)))), (by (repeat (first | (with_reducible exact Blk.new _ _ _ _) | ((with_reducible refine Blk.newS ?_); (focus (first | rfl | (simp; done)))) | ((with_reducible refine Blk.setRowNew ?_); (focus (first | rfl | (simp; done)))) | ((with_reducible refine Blk.setRowOther ?_ _ _ ?_); rotate_left; (focus (first | omega | (simp; done) | (simp; omega)))) | ((with_reducible refine Blk.other ?_ _ _ ?_); rotate_left; (focus (first | omega | (simp; done) | (simp; omega)))) | (with_reducible refine Blk.alloc ?_ _) | (with_reducible refine Blk.drewN ?_ _)))), Blk.ext (f := I fun _ => 0) (by (repeat (first | (with_reducible exact Blk.new _ _ _ _) | ((with_reducible refine Blk.newS ?_); (focus (first | rfl | (simp; done)))) | ((with_reducible refine Blk.setRowNew ?_); (focus (first | rfl | (simp; done)))) | ((with_reducible refine Blk.setRowOther ?_ _ _ ?_); rotate_left; (focus (first | omega | (simp; done) | (simp; omega)))) | ((with_reducible refine Blk.other ?_ _ _ ?_); rotate_left; (focus (first | omega | (simp; done) | (simp; omega)))) | (with_reducible refine Blk.alloc ?_ _) | (with_reducible refine Blk.drewN ?_ _)))) (fun i hi => by simp [I]; omega), (by (repeat (first | (with_reducible exact Below.refl _ _) | ((with_reducible refine below_setRow ?_ ?_ _); rotate_left; (focus (first | omega | (simp; done) | (simp; omega)))) | ((with_reducible refine Below.setCell ?_ ?_ _); rotate_left; (focus (first | omega | (simp; done) | (simp; omega)))) | ((with_reducible refine Below.alloc ?_ ?_ _); rotate_left; (focus (first | omega | (simp; done) | (simp; omega)))) | (with_reducible refine below_drewN ?_ _))))⟩
  case round =>
    obtain ⟨k, hk, rfl, hA, hR, hO, hb⟩ := hrel
    by_cases hlt : k < 6
    · obtain ⟨g1, g2⟩ := HS.out k hlt
      have c0 : wr.cell? ⟨w.heap.size, 0, none⟩ = some (.int .i64 (d 0)) := hA.cell (by omega)
      have c5 : wr.cell? ⟨w.heap.size, 5, none⟩ = some (.int .i64 (d 5)) := hA.cell (by omega)
      have cO : wr.cell? ⟨w.heap.size + 1 + 1, 5 - k, none⟩ = some (I (fun j => if 5 < j + k then opp d j else 0) (5 - k)) := hO.cell (by omega)
      have f0 := hO.free (5 - k)
      have hix_d : ∀ w, (Instr.index 22 (.agg (row 6 (I d))) (.int .i64 (k : Nat))).run Try.prog w = .ok (.int .i64 (d k)) w := index_row (f := I d) Try.underlying22 Try.sizeOf3 Try.isAgg3 hlt
      have HA := Lib.hid hA; have HR := Lib.hid hR; have HO := Lib.hid hO; have HB := Lib.hid hb
      clear hA hR hO hb
      go_wp2
      go_roundw
      case rel =>
        refine ⟨k + 1, by omega, by go_num, HA.out.other _ _ (by (focus (first | omega | (simp; done) | (simp; omega)))), HR.out.other _ _ (by (focus (first | omega | (simp; done) | (simp; omega)))), (HO.out.set (by omega) _).ext (fun i hi => ?_), HB.out.setCell (by (focus (first | omega | (simp; done) | (simp; omega)))) _⟩
        simp only [upd, I, opp]
        by_cases e : i = 5 - k
        · rw [if_pos e, if_pos (by omega), e, show 5 - (5 - k) = k by omega]
        · rw [if_neg e]; by_cases e2 : 5 < i + k
          · rw [if_pos e2, if_pos (by omega)]
          · rw [if_neg e2, if_neg (by omega)]
      case measure => simp [intOf]; omega
    · obtain rfl : k = 6 := by omega
      have HA := Lib.hid hA; have HR := Lib.hid hR; have HO := Lib.hid hO; have HB := Lib.hid hb
      clear hA hR hO hb
      go_wp2_with (first | (refine wpList_load_blk rfl 22 _ rfl (HO.out) rfl Try.underlying22 sz6 ?_) | (refine wpList_store_blk rfl 22 _ _ rfl (HR.out) rfl rfl sz6 (fun _ _ => rfl) ?_) | fail)
      refine post_blk rfl (HR.out.setRow _) rfl Try.underlying22 sz6 rfl ⟨?_, below_setRow HB.out (by (focus (first | omega | (simp; done) | (simp; omega)))) _⟩
      congr 2

/-! ### base -/
def bas (d : Nat → Int) (i : Nat) : Int := d i - d 0
theorem base_any (d : Nat → Int) (h : Small d) (w : World) :
    Calls Try.prog 138 #[dieV d] w fun e w' => e = .returned (dieV (bas d)) ∧ Below w.heap.size w w' := by
  have HS := Lib.hid h
  obtain ⟨a1, a2⟩ := h 0 (by omega)
  clear h
  have c0 : ∀ o, ((w.alloc (.cells (row 6 (I d)) 22)).alloc o).cell? ⟨w.heap.size, 0, none⟩ = some (.int .i64 (d 0)) := fun o => ((Blk.new w 6 22 (I d)).alloc o).cell (by omega)
  go_enter Try.func138, Try.ntmps138
  go_wp2_with (first | (refine wpList_alloc_blk rfl 22 rfl zero6 ?_) | (refine wpList_load_blk rfl 22 _ rfl ((Blk.new _ _ _ _).alloc _) rfl Try.underlying22 sz6 ?_) | fail)
  go_at_call 136
  refine (shifted_any d _ HS.out (by omega) (by omega) _).mono ?_
  rintro e w1 ⟨rfl, hb1⟩
  have R1 := Lib.hid (show Blk w1 (w.heap.size + 1) 6 22 (I fun _ => 0) from Blk.below (by (repeat (first | (with_reducible exact Blk.new _ _ _ _) | ((with_reducible refine Blk.newS ?_); (focus (first | rfl | (simp; done)))) | ((with_reducible refine Blk.setRowNew ?_); (focus (first | rfl | (simp; done)))) | ((with_reducible refine Blk.setRowOther ?_ _ _ ?_); rotate_left; (focus (first | omega | (simp; done) | (simp; omega)))) | ((with_reducible refine Blk.other ?_ _ _ ?_); rotate_left; (focus (first | omega | (simp; done) | (simp; omega)))) | (with_reducible refine Blk.alloc ?_ _) | (with_reducible refine Blk.drewN ?_ _)))) hb1 (by (focus (first | omega | (simp; done) | (simp; omega)))))
  have HB1 := Lib.hid (Below.trans (show Below w.heap.size w _ from (by (repeat (first | (with_reducible exact Below.refl _ _) | ((with_reducible refine below_setRow ?_ ?_ _); rotate_left; (focus (first | omega | (simp; done) | (simp; omega)))) | ((with_reducible refine Below.setCell ?_ ?_ _); rotate_left; (focus (first | omega | (simp; done) | (simp; omega)))) | ((with_reducible refine Below.alloc ?_ ?_ _); rotate_left; (focus (first | omega | (simp; done) | (simp; omega)))) | (with_reducible refine below_drewN ?_ _))))) (hb1.mono (by (focus (first | omega | (simp; done) | (simp; omega))))))
  clear hb1
  go_wp2_with (first | (refine wpList_store_blk rfl 22 _ _ rfl (R1.out) rfl rfl sz6 (fun _ _ => rfl) ?_) | fail)
  exact post_blk rfl (R1.out.setRow _) rfl Try.underlying22 sz6 rfl ⟨by congr 2, below_setRow HB1.out (by (focus (first | omega | (simp; done) | (simp; omega)))) _⟩

theorem l5Base_any (d : Nat → Int) (h : Small d) (w : World) :
    Calls Try.prog 137 #[dieV d] w fun e w' => e = .returned (dieV (bas d)) ∧ Below w.heap.size w w' := by
  have HS := Lib.hid h
  obtain ⟨a1, a2⟩ := h 0 (by omega)
  clear h
  go_enter Try.func137, Try.ntmps137
  go_wp2_with (first | (refine wpList_alloc_blk rfl 22 rfl zero6 ?_) | (refine wpList_build0_blk rfl 22 rfl built6 ?_) | (refine wpList_store_new rfl 22 _ _ rfl rfl rfl (by first | rfl | (simp; done)) sz6 (fun _ _ => rfl) ?_) | fail)
  go_loopw [4] (fun i wr => ∃ k : Nat, k ≤ 6 ∧ i = .int .i64 k ∧ Blk wr w.heap.size 6 22 (I d) ∧ Blk wr (w.heap.size + 1) 6 22 (I fun _ => 0) ∧ Blk wr (w.heap.size + 1 + 1) 6 22 (I fun j => if j < k then bas d j else 0) ∧ Below w.heap.size w wr) (fun i _ => 6 - (intOf i).toNat)
  case atStart => exact ⟨0, by omega, rfl, (by (repeat (first | (with_reducible exact Blk.new _ _ _ _) | ((with_reducible refine Blk.newS ?_); (focus (first | rfl | (simp; done)))) | ((with_reducible refine Blk.setRowNew ?_); (focus (first | rfl | (simp; done)))) | ((with_reducible refine Blk.setRowOther ?_ _ _ ?_); rotate_left; (focus (first | omega | (simp; done) | (simp; omega)))) | ((with_reducible refine Blk.other ?_ _ _ ?_); rotate_left; (focus (first | omega | (simp; done) | (simp; omega)))) | (with_reducible refine Blk.alloc ?_ _) | (with_reducible refine Blk.drewN ?_ _)))), (by (repeat (first | (with_reducible exact Blk.new _ _ _ _) | ((with_reducible refine Blk.newS ?_); (focus (first | rfl | (simp; done)))) | ((with_reducible refine Blk.setRowNew ?_); (focus (first | rfl | (simp; done)))) | ((with_reducible refine Blk.setRowOther ?_ _ _ ?_); rotate_left; (focus (first | omega | (simp; done) | (simp; omega)))) | ((with_reducible refine Blk.other ?_ _ _ ?_); rotate_left; (focus (first | omega | (simp; done) | (simp; omega)))) | (with_reducible refine Blk.alloc ?_ _) | (with_reducible refine Blk.drewN ?_ _)))), Blk.ext (f := I fun _ => 0) (by (repeat (first | (with_reducible exact Blk.new _ _ _ _) | ((with_reducible refine Blk.newS ?_); (focus (first | rfl | (simp; done)))) | ((with_reducible refine Blk.setRowNew ?_); (focus (first | rfl | (simp; done)))) | ((with_reducible refine Blk.setRowOther ?_ _ _ ?_); rotate_left; (focus (first | omega | (simp; done) | (simp; omega)))) | ((with_reducible refine Blk.other ?_ _ _ ?_); rotate_left; (focus (first | omega | (simp; done) | (simp; omega)))) | (with_reducible refine Blk.alloc ?_ _) | (with_reducible refine Blk.drewN ?_ _)))) (fun i hi => by simp [I]), (by (repeat (first | (with_reducible exact Below.refl _ _) | ((with_reducible refine below_setRow ?_ ?_ _); rotate_left; (focus (first | omega | (simp; done) | (simp; omega)))) | ((with_reducible refine Below.setCell ?_ ?_ _); rotate_left; (focus (first | omega | (simp; done) | (simp; omega)))) | ((with_reducible refine Below.alloc ?_ ?_ _); rotate_left; (focus (first | omega | (simp; done) | (simp; omega)))) | (with_reducible refine below_drewN ?_ _))))⟩
  case round =>
    obtain ⟨k, hk, rfl, hA, hR, hO, hb⟩ := hrel
    by_cases hlt : k < 6
    · obtain ⟨g1, g2⟩ := HS.out k hlt
      have c0 : wr.cell? ⟨w.heap.size, 0, none⟩ = some (.int .i64 (d 0)) := hA.cell (by omega)
      have c1 : wr.cell? ⟨w.heap.size, k, none⟩ = some (.int .i64 (d k)) := hA.cell hlt
      have HA := Lib.hid hA; have HR := Lib.hid hR; have HO := Lib.hid hO; have HB := Lib.hid hb
      clear hA hR hO hb
      have cO : wr.cell? ⟨w.heap.size + 1 + 1, k, none⟩ = some (I (fun j => if j < k then bas d j else 0) k) := HO.out.cell hlt
      have f0 := HO.out.free k
      go_wp2
      go_region
      go_wp2
      go_roundw
      case rel =>
        refine ⟨k + 1, by omega, by go_num, HA.out.drew.other _ _ (by (focus (first | omega | (simp; done) | (simp; omega)))), HR.out.drew.other _ _ (by (focus (first | omega | (simp; done) | (simp; omega)))), (HO.out.drew.set (by omega) _).ext (fun i hi => ?_), HB.out.drew.setCell (by (focus (first | omega | (simp; done) | (simp; omega)))) _⟩
        simp only [upd, I, bas]
        by_cases e : i = k
        · rw [if_pos e, if_pos (by omega), e]
        · rw [if_neg e]; by_cases e2 : i < k
          · rw [if_pos e2, if_pos (by omega)]
          · rw [if_neg e2, if_neg (by omega)]
      case measure => simp [intOf]; omega
    · obtain rfl : k = 6 := by omega
      have HA := Lib.hid hA; have HR := Lib.hid hR; have HO := Lib.hid hO; have HB := Lib.hid hb
      clear hA hR hO hb
      go_wp2_with (first | (refine wpList_load_blk rfl 22 _ rfl (HO.out) rfl Try.underlying22 sz6 ?_) | (refine wpList_store_blk rfl 22 _ _ rfl (HR.out) rfl rfl sz6 (fun _ _ => rfl) ?_) | fail)
      refine post_blk rfl (HR.out.setRow _) rfl Try.underlying22 sz6 rfl ⟨?_, below_setRow HB.out (by (focus (first | omega | (simp; done) | (simp; omega)))) _⟩
      congr 2
end Go.Proofs.Ytmhlfpcndgoemaa
