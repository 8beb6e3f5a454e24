/- Texts of mine, joined by merge.py. -/
import Derived.Test.YtbfhfadfjgfmaaaTurn
/- Contracts of functions of this program, used by the laws of this seat. No condition beyond what each theorem states. -/
set_option linter.unusedVariables false
set_option linter.unusedSimpArgs false
set_option linter.unusedSectionVars false
namespace Go.Proofs.Ytbfhfadfjgfmaaa
open Go.RowKit

def cmpI (x y : Int) : Int := if x < y then -1 else if y < x then 1 else 0
theorem compare_any (x y : Int) (w : World) : Calls Try.prog 75 #[.int .i64 x, .int .i64 y] w fun e w' => e = .returned (.int .i64 (cmpI x y)) ∧ w = w' := by
  unfold cmpI
  by_cases h1 : x < y
  · rw [if_pos h1]
    go_enter Try.func75, Try.ntmps75
    go_wp2_with (first | (go_at_call 108; refine (isNaN_any _ _).mono ?_; rintro e w' ⟨rfl, rfl⟩) | fail)
    go_ret
    exact ⟨rfl, rfl⟩
  · by_cases h2 : y < x
    · rw [if_neg h1, if_pos h2]
      go_enter Try.func75, Try.ntmps75
      go_wp2_with (first | (go_at_call 108; refine (isNaN_any _ _).mono ?_; rintro e w' ⟨rfl, rfl⟩) | fail)
      go_ret
      exact ⟨rfl, rfl⟩
    · rw [if_neg h1, if_neg h2]
      go_enter Try.func75, Try.ntmps75
      go_wp2_with (first | (go_at_call 108; refine (isNaN_any _ _).mono ?_; rintro e w' ⟨rfl, rfl⟩) | fail)
      go_ret
      exact ⟨rfl, rfl⟩

/-- Which of the three counts a pair of faces belongs to. -/
def place (x y : Int) : Nat := if y < x then 0 else if x = y then 1 else 2
theorem place_lt (x y : Int) : place x y < 3 := by unfold place; split <;> (try split) <;> omega
theorem cmpI_place (x y : Int) : 1 - cmpI x y = place x y := by
  unfold cmpI place
  by_cases h1 : x < y
  · rw [if_pos h1, if_neg (by omega), if_neg (by omega)]; rfl
  · by_cases h2 : y < x
    · rw [if_neg h1, if_pos h2, if_pos h2]; rfl
    · rw [if_neg h1, if_neg h2, if_neg h2, if_pos (by omega)]; rfl
def cmpRow (x : Int) (b : Nat → Int) (c : Nat → Int) : Nat → Nat → Int
  | 0 => c
  | k + 1 => upd (cmpRow x b c k) (place x (b k)) (cmpRow x b c k (place x (b k)) + 1)
def cmpAll (a b : Nat → Int) : Nat → Nat → Int
  | 0 => fun _ => 0
  | i + 1 => cmpRow (a i) b (cmpAll a b i) 6
theorem cmpRow_bd (x : Int) (b c : Nat → Int) (m : Int) (h : ∀ v, 0 ≤ c v ∧ c v ≤ m) (k v : Nat) : 0 ≤ cmpRow x b c k v ∧ cmpRow x b c k v ≤ m + k := by
  induction k generalizing v with
  | zero => have := h v; simp [cmpRow]; omega
  | succ k ih =>
    simp only [cmpRow, upd]
    split
    · have := ih (place x (b k)); omega
    · have := ih v; omega
theorem cmpAll_bd (a b : Nat → Int) (i v : Nat) : 0 ≤ cmpAll a b i v ∧ cmpAll a b i v ≤ 6 * i := by
  induction i generalizing v with
  | zero => simp [cmpAll]
  | succ i ih =>
    have := cmpRow_bd (a i) b (cmpAll a b i) (6 * i) ih 6 v
    simp only [cmpAll]; omega

set_option maxHeartbeats 1000000 in
theorem compared_any (a b : Nat → Int) (w : World) : Calls Try.prog 105 #[dieV a, dieV b] w fun e w' => e = .returned (.agg (row 3 (I (cmpAll a b 6)))) ∧ Below w.heap.size w w' := by
  go_enter Try.func105, Try.ntmps105
  go_wp2_with (first | (refine wpList_alloc_blk rfl 86 rfl zero3 ?_) | (refine wpList_load_blk rfl 53 _ rfl ((((Blk.new _ _ _ _).alloc _).alloc _).alloc _) rfl Try.underlying53 sz6 ?_) | fail)
  go_loopw [11] (fun i wr => ∃ k : Nat, k ≤ 6 ∧ i = .int .i64 k ∧ Blk wr w.heap.size 6 53 (I a) ∧ Blk wr (w.heap.size + 1) 6 53 (I b) ∧ Blk wr (w.heap.size + 1 + 1) 3 86 (I fun _ => 0) ∧ Blk wr (w.heap.size + 1 + 1 + 1) 3 86 (I (cmpAll a b k)) ∧ Below w.heap.size w wr) (fun i _ => 6 - (intOf i).toNat)
  case atStart => exact ⟨0, by omega, rfl, (by (repeat (first | (with_reducible exact Blk.new _ _ _ _) | ((with_reducible refine Blk.newS ?_); (focus (first | rfl | (simp; done)))) | ((with_reducible refine Blk.setRowNew ?_); (focus (first | rfl | (simp; done)))) | ((with_reducible refine Blk.setRowOther ?_ _ _ ?_); rotate_left; (focus (first | omega | (simp; done) | (simp; omega)))) | ((with_reducible refine Blk.other ?_ _ _ ?_); rotate_left; (focus (first | omega | (simp; done) | (simp; omega)))) | (with_reducible refine Blk.alloc ?_ _) | (with_reducible refine Blk.drewN ?_ _)))), (by (repeat (first | (with_reducible exact Blk.new _ _ _ _) | ((with_reducible refine Blk.newS ?_); (focus (first | rfl | (simp; done)))) | ((with_reducible refine Blk.setRowNew ?_); (focus (first | rfl | (simp; done)))) | ((with_reducible refine Blk.setRowOther ?_ _ _ ?_); rotate_left; (focus (first | omega | (simp; done) | (simp; omega)))) | ((with_reducible refine Blk.other ?_ _ _ ?_); rotate_left; (focus (first | omega | (simp; done) | (simp; omega)))) | (with_reducible refine Blk.alloc ?_ _) | (with_reducible refine Blk.drewN ?_ _)))), (by (repeat (first | (with_reducible exact Blk.new _ _ _ _) | ((with_reducible refine Blk.newS ?_); (focus (first | rfl | (simp; done)))) | ((with_reducible refine Blk.setRowNew ?_); (focus (first | rfl | (simp; done)))) | ((with_reducible refine Blk.setRowOther ?_ _ _ ?_); rotate_left; (focus (first | omega | (simp; done) | (simp; omega)))) | ((with_reducible refine Blk.other ?_ _ _ ?_); rotate_left; (focus (first | omega | (simp; done) | (simp; omega)))) | (with_reducible refine Blk.alloc ?_ _) | (with_reducible refine Blk.drewN ?_ _)))), Blk.ext (f := I fun _ => 0) (by (repeat (first | (with_reducible exact Blk.new _ _ _ _) | ((with_reducible refine Blk.newS ?_); (focus (first | rfl | (simp; done)))) | ((with_reducible refine Blk.setRowNew ?_); (focus (first | rfl | (simp; done)))) | ((with_reducible refine Blk.setRowOther ?_ _ _ ?_); rotate_left; (focus (first | omega | (simp; done) | (simp; omega)))) | ((with_reducible refine Blk.other ?_ _ _ ?_); rotate_left; (focus (first | omega | (simp; done) | (simp; omega)))) | (with_reducible refine Blk.alloc ?_ _) | (with_reducible refine Blk.drewN ?_ _)))) (fun _ _ => rfl), (by (repeat (first | (with_reducible exact Below.refl _ _) | ((with_reducible refine below_setRow ?_ ?_ _); rotate_left; (focus (first | omega | (simp; done) | (simp; omega)))) | ((with_reducible refine Below.setCell ?_ ?_ _); rotate_left; (focus (first | omega | (simp; done) | (simp; omega)))) | ((with_reducible refine Below.alloc ?_ ?_ _); rotate_left; (focus (first | omega | (simp; done) | (simp; omega)))) | (with_reducible refine below_drewN ?_ _))))⟩
  case round =>
    obtain ⟨i, hi, rfl, hA, hB, hR, hO, hb⟩ := hrel
    by_cases hlt : i < 6
    · have hix_a : ∀ w, (Instr.index 53 (.agg (row 6 (I a))) (.int .i64 (i : Nat))).run Try.prog w = .ok (.int .i64 (a i)) w := index_row (f := I a) Try.underlying53 Try.sizeOf3 Try.isAgg3 hlt
      have hbd := Lib.hid (cmpAll_bd a b i)
      have HA := Lib.hid hA; have HB := Lib.hid hB; have HR := Lib.hid hR; have HO := Lib.hid hO; have Hb := Lib.hid hb
      clear hA hB hR hO hb
      obtain ⟨wo, rfl⟩ : ∃ wo : World, wo = wr := ⟨_, rfl⟩
      go_wp2_with (first | (refine wpList_load_blk rfl 53 _ rfl (HB.out) rfl Try.underlying53 sz6 ?_) | fail)
      go_loopw [15] (fun v wr => ∃ k : Nat, k ≤ 6 ∧ v = .int .i64 k ∧ Blk wr w.heap.size 6 53 (I a) ∧ Blk wr (w.heap.size + 1) 6 53 (I b) ∧ Blk wr (w.heap.size + 1 + 1) 3 86 (I fun _ => 0) ∧ Blk wr (w.heap.size + 1 + 1 + 1) 3 86 (I (cmpRow (a i) b (cmpAll a b i) k)) ∧ Below w.heap.size w wr) (fun i _ => 6 - (intOf i).toNat)
      case atStart => exact ⟨0, by omega, rfl, HA.out, HB.out, HR.out, HO.out, Hb.out⟩
      case round =>
        obtain ⟨k, hk, rfl, hA, hB, hR, hO, hb⟩ := hrel
        clear HA HB HR HO Hb
        by_cases hlk : k < 6
        · have hix_b : ∀ w, (Instr.index 53 (.agg (row 6 (I b))) (.int .i64 (k : Nat))).run Try.prog w = .ok (.int .i64 (b k)) w := index_row (f := I b) Try.underlying53 Try.sizeOf3 Try.isAgg3 hlk
          obtain ⟨p, ep⟩ : ∃ p, p = place (a i) (b k) := ⟨_, rfl⟩
          have hp : p < 3 := ep ▸ place_lt (a i) (b k)
          have EP := Lib.hid ep
          have HE := Lib.hid (show cmpI (a i) (b k) = 1 - (p : Int) by have := cmpI_place (a i) (b k); rw [← ep] at this; omega)
          obtain ⟨q1, q2⟩ := cmpRow_bd (a i) b (cmpAll a b i) (6 * i) hbd.out k p
          clear ep
          have ee : (1 - (1 - (p : Int))).toNat = p := by omega
          have c1 : wr.cell? ⟨w.heap.size + 1 + 1 + 1, (1 - (1 - (p : Int))).toNat, none⟩ = some (.int .i64 (cmpRow (a i) b (cmpAll a b i) k p)) := by rw [ee]; exact hO.cell hp
          have f1 : wr.frozen? ⟨w.heap.size + 1 + 1 + 1, (1 - (1 - (p : Int))).toNat, none⟩ = false := hO.free _
          have EE := Lib.hid ee; clear ee
          have HA := Lib.hid hA; have HB := Lib.hid hB; have HR := Lib.hid hR; have HO := Lib.hid hO; have Hb := Lib.hid hb
          clear hA hB hR hO hb
          go_wp2_with fail
          go_at_call 75
          refine (compare_any _ _ _).mono ?_
          rintro e w' ⟨rfl, rfl⟩
          rw [HE.out]
          go_wp2
          go_roundw
          case rel => rw [EE.out]; exact ⟨k + 1, by omega, by go_num, HA.out.other _ _ (by (focus (first | omega | (simp; done) | (simp; omega)))), HB.out.other _ _ (by (focus (first | omega | (simp; done) | (simp; omega)))), HR.out.other _ _ (by (focus (first | omega | (simp; done) | (simp; omega)))), (HO.out.set hp _).ext (fun j _ => by simp only [cmpRow, ← EP.out, upd, I]; split <;> rfl), Hb.out.setCell (by (focus (first | omega | (simp; done) | (simp; omega)))) _⟩
          case measure => simp [intOf]; omega
        · obtain rfl : k = 6 := by omega
          have HA := Lib.hid hA; have HB := Lib.hid hB; have HR := Lib.hid hR; have HO := Lib.hid hO; have Hb := Lib.hid hb
          clear hA hB hR hO hb
          go_wp2
          go_roundw
          case rel => exact ⟨i + 1, by omega, by go_num, HA.out, HB.out, HR.out, HO.out, Hb.out⟩
          case measure => simp [intOf]; omega
    · obtain rfl : i = 6 := by omega
      have HA := Lib.hid hA; have HB := Lib.hid hB; have HR := Lib.hid hR; have HO := Lib.hid hO; have Hb := Lib.hid hb
      clear hA hB hR hO hb
      go_wp2_with (first | (refine wpList_load_blk rfl 86 _ rfl (HO.out) rfl Try.underlying86 sz3 ?_) | (refine wpList_store_blk rfl 86 _ _ rfl (HR.out) rfl rfl sz3 (fun _ _ => rfl) ?_) | fail)
      exact post_blk rfl (HR.out.setRow _) rfl Try.underlying86 sz3 rfl ⟨rfl, below_setRow Hb.out (by (focus (first | omega | (simp; done) | (simp; omega)))) _⟩
end Go.Proofs.Ytbfhfadfjgfmaaa

/- Contracts of functions of this program, used by the laws of this seat. No condition beyond what each theorem states. -/
set_option linter.unusedVariables false
set_option linter.unusedSimpArgs false
set_option linter.unusedSectionVars false
namespace Go.Proofs.Ytbfhfadfjgfmaaa
open Go.RowKit

set_option maxHeartbeats 1000000 in
theorem l3Compare_any (a b : Nat → Int) (w : World) : Calls Try.prog 80 #[dieV a, dieV b] w fun e w' => e = .returned (.agg (row 3 (I (cmpAll a b 6)))) ∧ Below w.heap.size w w' := by
  go_enter Try.func80, Try.ntmps80
  go_wp2_with (first | (refine wpList_alloc_blk rfl 86 rfl zero3 ?_) | (refine wpList_build0_blk rfl 86 rfl built3 ?_) | (refine wpList_store_new rfl 86 _ _ rfl rfl rfl (by first | rfl | (simp; done)) sz3 (fun _ _ => rfl) ?_) | fail)
  go_loopw [6] (fun i wr => ∃ k : Nat, k ≤ 6 ∧ i = .int .i64 k ∧ Blk wr w.heap.size 6 53 (I a) ∧ Blk wr (w.heap.size + 1) 6 53 (I b) ∧ Blk wr (w.heap.size + 1 + 1) 3 86 (I fun _ => 0) ∧ Blk wr (w.heap.size + 1 + 1 + 1) 3 86 (I (cmpAll a b k)) ∧ Below w.heap.size w wr) (fun i _ => 6 - (intOf i).toNat)
  case atStart => exact ⟨0, by omega, rfl, (by (repeat (first | (with_reducible exact Blk.new _ _ _ _) | ((with_reducible refine Blk.newS ?_); (focus (first | rfl | (simp; done)))) | ((with_reducible refine Blk.setRowNew ?_); (focus (first | rfl | (simp; done)))) | ((with_reducible refine Blk.setRowOther ?_ _ _ ?_); rotate_left; (focus (first | omega | (simp; done) | (simp; omega)))) | ((with_reducible refine Blk.other ?_ _ _ ?_); rotate_left; (focus (first | omega | (simp; done) | (simp; omega)))) | (with_reducible refine Blk.alloc ?_ _) | (with_reducible refine Blk.drewN ?_ _)))), (by (repeat (first | (with_reducible exact Blk.new _ _ _ _) | ((with_reducible refine Blk.newS ?_); (focus (first | rfl | (simp; done)))) | ((with_reducible refine Blk.setRowNew ?_); (focus (first | rfl | (simp; done)))) | ((with_reducible refine Blk.setRowOther ?_ _ _ ?_); rotate_left; (focus (first | omega | (simp; done) | (simp; omega)))) | ((with_reducible refine Blk.other ?_ _ _ ?_); rotate_left; (focus (first | omega | (simp; done) | (simp; omega)))) | (with_reducible refine Blk.alloc ?_ _) | (with_reducible refine Blk.drewN ?_ _)))), (by (repeat (first | (with_reducible exact Blk.new _ _ _ _) | ((with_reducible refine Blk.newS ?_); (focus (first | rfl | (simp; done)))) | ((with_reducible refine Blk.setRowNew ?_); (focus (first | rfl | (simp; done)))) | ((with_reducible refine Blk.setRowOther ?_ _ _ ?_); rotate_left; (focus (first | omega | (simp; done) | (simp; omega)))) | ((with_reducible refine Blk.other ?_ _ _ ?_); rotate_left; (focus (first | omega | (simp; done) | (simp; omega)))) | (with_reducible refine Blk.alloc ?_ _) | (with_reducible refine Blk.drewN ?_ _)))), Blk.ext (f := I fun _ => 0) (by (repeat (first | (with_reducible exact Blk.new _ _ _ _) | ((with_reducible refine Blk.newS ?_); (focus (first | rfl | (simp; done)))) | ((with_reducible refine Blk.setRowNew ?_); (focus (first | rfl | (simp; done)))) | ((with_reducible refine Blk.setRowOther ?_ _ _ ?_); rotate_left; (focus (first | omega | (simp; done) | (simp; omega)))) | ((with_reducible refine Blk.other ?_ _ _ ?_); rotate_left; (focus (first | omega | (simp; done) | (simp; omega)))) | (with_reducible refine Blk.alloc ?_ _) | (with_reducible refine Blk.drewN ?_ _)))) (fun _ _ => rfl), (by (repeat (first | (with_reducible exact Below.refl _ _) | ((with_reducible refine below_setRow ?_ ?_ _); rotate_left; (focus (first | omega | (simp; done) | (simp; omega)))) | ((with_reducible refine Below.setCell ?_ ?_ _); rotate_left; (focus (first | omega | (simp; done) | (simp; omega)))) | ((with_reducible refine Below.alloc ?_ ?_ _); rotate_left; (focus (first | omega | (simp; done) | (simp; omega)))) | (with_reducible refine below_drewN ?_ _))))⟩
  case round =>
    obtain ⟨i, hi, rfl, hA, hB, hR, hO, hb⟩ := hrel
    by_cases hlt : i < 6
    · have hbd := Lib.hid (cmpAll_bd a b i)
      have d0 : decide ((i : Int) < 6) = true := by simp; omega
      have HA := Lib.hid hA; have HB := Lib.hid hB; have HR := Lib.hid hR; have HO := Lib.hid hO; have Hb := Lib.hid hb
      clear hA hB hR hO hb
      obtain ⟨wo, rfl⟩ : ∃ wo : World, wo = wr := ⟨_, rfl⟩
      go_wp2
      go_loopw [7] (fun v wr => ∃ k : Nat, k ≤ 6 ∧ v = .int .i64 k ∧ Blk wr w.heap.size 6 53 (I a) ∧ Blk wr (w.heap.size + 1) 6 53 (I b) ∧ Blk wr (w.heap.size + 1 + 1) 3 86 (I fun _ => 0) ∧ Blk wr (w.heap.size + 1 + 1 + 1) 3 86 (I (cmpRow (a i) b (cmpAll a b i) k)) ∧ Below w.heap.size w wr) (fun i _ => 6 - (intOf i).toNat)
      case atStart => exact ⟨0, by omega, rfl, HA.out, HB.out, HR.out, HO.out, Hb.out⟩
      case round =>
        obtain ⟨k, hk, rfl, hA, hB, hR, hO, hb⟩ := hrel
        clear HA HB HR HO Hb
        by_cases hlk : k < 6
        · obtain ⟨p, ep⟩ : ∃ p, p = place (a i) (b k) := ⟨_, rfl⟩
          obtain ⟨q1, q2⟩ := cmpRow_bd (a i) b (cmpAll a b i) (6 * i) hbd.out k p
          have ca : wr.cell? ⟨w.heap.size, i, none⟩ = some (.int .i64 (a i)) := hA.cell hlt
          have cb : wr.cell? ⟨w.heap.size + 1, k, none⟩ = some (.int .i64 (b k)) := hB.cell hlk
          have f1 := hO.free p
          have HA := Lib.hid hA; have HB := Lib.hid hB; have HR := Lib.hid hR; have HO := Lib.hid hO; have Hb := Lib.hid hb
          clear hA hB hR hO hb
          by_cases g1 : b k < a i
          · obtain rfl : p = 0 := by rw [ep]; unfold place; rw [if_pos g1]
            have EP := Lib.hid ep; clear ep
            have c1 : wr.cell? ⟨w.heap.size + 1 + 1 + 1, 0, none⟩ = some (.int .i64 (cmpRow (a i) b (cmpAll a b i) k 0)) := HO.out.cell (by omega)
            have d1 : decide (b k < a i) = true := by simp; omega
            go_wp2
            go_quiet (fail)
            go_wp2
            go_roundw
            case rel => exact ⟨k + 1, by omega, by go_num, (HA.out.drewN _).other _ _ (by (focus (first | omega | (simp; done) | (simp; omega)))), (HB.out.drewN _).other _ _ (by (focus (first | omega | (simp; done) | (simp; omega)))), (HR.out.drewN _).other _ _ (by (focus (first | omega | (simp; done) | (simp; omega)))), ((HO.out.drewN _).set (by omega) _).ext (fun j _ => by simp only [cmpRow, ← EP.out, upd, I]; split <;> rfl), (below_drewN Hb.out _).setCell (by (focus (first | omega | (simp; done) | (simp; omega)))) _⟩
            case measure => simp [intOf]; omega
          · by_cases g2 : a i = b k
            · obtain rfl : p = 1 := by rw [ep]; unfold place; rw [if_neg g1, if_pos g2]
              have EP := Lib.hid ep; clear ep
              have c1 : wr.cell? ⟨w.heap.size + 1 + 1 + 1, 1, none⟩ = some (.int .i64 (cmpRow (a i) b (cmpAll a b i) k 1)) := HO.out.cell (by omega)
              have d1 : decide (b k < a i) = false := by simp; omega
              have d2 : (a i == b k) = true := by simp [g2]
              have G2 := Lib.hid g2; clear g2
              go_wp2
              go_quiet (fail)
              go_wp2
              go_quiet (fail)
              go_wp2
              go_roundw
              case rel => exact ⟨k + 1, by omega, by go_num, (HA.out.drewN _).other _ _ (by (focus (first | omega | (simp; done) | (simp; omega)))), (HB.out.drewN _).other _ _ (by (focus (first | omega | (simp; done) | (simp; omega)))), (HR.out.drewN _).other _ _ (by (focus (first | omega | (simp; done) | (simp; omega)))), ((HO.out.drewN _).set (by omega) _).ext (fun j _ => by simp only [cmpRow, ← EP.out, upd, I]; split <;> rfl), (below_drewN Hb.out _).setCell (by (focus (first | omega | (simp; done) | (simp; omega)))) _⟩
              case measure => simp [intOf]; omega
            · obtain rfl : p = 2 := by rw [ep]; unfold place; rw [if_neg g1, if_neg g2]
              have EP := Lib.hid ep; clear ep
              have c1 : wr.cell? ⟨w.heap.size + 1 + 1 + 1, 2, none⟩ = some (.int .i64 (cmpRow (a i) b (cmpAll a b i) k 2)) := HO.out.cell (by omega)
              have d1 : decide (b k < a i) = false := by simp; omega
              have d2 : (a i == b k) = false := by simp [g2]
              go_wp2
              go_quiet (fail)
              go_wp2
              go_quiet (fail)
              go_wp2
              go_roundw
              case rel => exact ⟨k + 1, by omega, by go_num, (HA.out.drewN _).other _ _ (by (focus (first | omega | (simp; done) | (simp; omega)))), (HB.out.drewN _).other _ _ (by (focus (first | omega | (simp; done) | (simp; omega)))), (HR.out.drewN _).other _ _ (by (focus (first | omega | (simp; done) | (simp; omega)))), ((HO.out.drewN _).set (by omega) _).ext (fun j _ => by simp only [cmpRow, ← EP.out, upd, I]; split <;> rfl), (below_drewN Hb.out _).setCell (by (focus (first | omega | (simp; done) | (simp; omega)))) _⟩
              case measure => simp [intOf]; omega
        · obtain rfl : k = 6 := by omega
          have HA := Lib.hid hA; have HB := Lib.hid hB; have HR := Lib.hid hR; have HO := Lib.hid hO; have Hb := Lib.hid hb
          clear hA hB hR hO hb
          go_wp2
          go_roundw
          case rel => exact ⟨i + 1, by omega, by go_num, HA.out, HB.out, HR.out, HO.out, Hb.out⟩
          case measure => simp [intOf]; omega
    · obtain rfl : i = 6 := by omega
      have HA := Lib.hid hA; have HB := Lib.hid hB; have HR := Lib.hid hR; have HO := Lib.hid hO; have Hb := Lib.hid hb
      clear hA hB hR hO hb
      go_wp2_with (first | (refine wpList_load_blk rfl 86 _ rfl (HO.out) rfl Try.underlying86 sz3 ?_) | (refine wpList_store_blk rfl 86 _ _ rfl (HR.out) rfl rfl sz3 (fun _ _ => rfl) ?_) | fail)
      exact post_blk rfl (HR.out.setRow _) rfl Try.underlying86 sz3 rfl ⟨rfl, below_setRow Hb.out (by (focus (first | omega | (simp; done) | (simp; omega)))) _⟩
end Go.Proofs.Ytbfhfadfjgfmaaa

/- Contracts of functions of this program, used by the laws of this seat. No condition beyond what each theorem states. -/
set_option linter.unusedVariables false
set_option linter.unusedSimpArgs false
set_option linter.unusedSectionVars false
namespace Go.Proofs.Ytbfhfadfjgfmaaa
open Go.RowKit

def beatI (a b : Nat → Int) : Int := cmpI (cmpAll a b 6 0) (cmpAll a b 6 2)
def beatB (a b : Nat → Int) : Bool := decide (cmpAll a b 6 2 < cmpAll a b 6 0)
theorem beatI_pos (a b : Nat → Int) : decide (0 < beatI a b) = beatB a b := by
  unfold beatI beatB cmpI
  by_cases h1 : cmpAll a b 6 0 < cmpAll a b 6 2
  · rw [if_pos h1]; simp; omega
  · by_cases h2 : cmpAll a b 6 2 < cmpAll a b 6 0
    · rw [if_neg h1, if_pos h2]; simp [h2]
    · rw [if_neg h1, if_neg h2]; simp; omega

theorem beats_any (a b : Nat → Int) (w : World) : Calls Try.prog 70 #[dieV a, dieV b] w fun e w' => e = .returned (.int .i64 (beatI a b)) ∧ Below w.heap.size w w' := by
  go_enter Try.func70, Try.ntmps70
  go_wp2_with (first | (refine wpList_load_blk rfl 53 _ rfl ((Blk.new _ _ _ _).alloc _) rfl Try.underlying53 sz6 ?_) | (refine wpList_load_blk rfl 53 _ rfl (Blk.newS (b := w.heap.size + 1) (by simp)) rfl Try.underlying53 sz6 ?_) | fail)
  go_at_call 105
  refine (compared_any a b _).mono ?_
  rintro e w1 ⟨rfl, hb1⟩
  have HB1 := Lib.hid hb1; clear hb1
  have A1 := Lib.hid (show Blk w1 w.heap.size 6 53 (I a) from ((Blk.new _ _ _ _).alloc _).below HB1.out (by simp; omega))
  have B1 := Lib.hid (show Blk w1 (w.heap.size + 1) 6 53 (I b) from (Blk.newS (by simp)).below HB1.out (by simp))
  have HB1 := Lib.hid ((((Below.refl w.heap.size w).alloc (by omega) _).alloc (by simp) _).trans (HB1.out.mono (by simp; omega)))
  have c0 := (Blk.new w1 3 86 (I (cmpAll a b 6))).cell (i := 0) (by omega)
  have c2 := (Blk.new w1 3 86 (I (cmpAll a b 6))).cell (i := 2) (by omega)
  simp only [I] at c0 c2
  go_wp2_with (first | (refine wpList_alloc_blk rfl 86 rfl zero3 ?_) | (refine wpList_store_new rfl 86 _ _ rfl rfl rfl (by first | rfl | (simp; done)) sz3 (fun _ _ => rfl) ?_) | (go_at_call 75; refine (compare_any _ _ _).mono ?_; rintro e w' ⟨rfl, rfl⟩) | fail)
  go_ret
  exact ⟨rfl, HB1.out.alloc (by have := HB1.out.size; omega) _⟩
theorem l3Beats_any (a b : Nat → Int) (w : World) : Calls Try.prog 101 #[dieV a, dieV b] w fun e w' => e = .returned (.bool (beatB a b)) ∧ Below w.heap.size w w' := by
  go_enter Try.func101, Try.ntmps101
  go_wp2_with (first | (refine wpList_load_blk rfl 53 _ rfl ((Blk.new _ _ _ _).alloc _) rfl Try.underlying53 sz6 ?_) | (refine wpList_load_blk rfl 53 _ rfl (Blk.newS (b := w.heap.size + 1) (by simp)) rfl Try.underlying53 sz6 ?_) | fail)
  go_at_call 80
  refine (l3Compare_any a b _).mono ?_
  rintro e w1 ⟨rfl, hb1⟩
  have HB1 := Lib.hid hb1; clear hb1
  have A1 := Lib.hid (show Blk w1 w.heap.size 6 53 (I a) from ((Blk.new _ _ _ _).alloc _).below HB1.out (by simp; omega))
  have B1 := Lib.hid (show Blk w1 (w.heap.size + 1) 6 53 (I b) from (Blk.newS (by simp)).below HB1.out (by simp))
  have HB1 := Lib.hid ((((Below.refl w.heap.size w).alloc (by omega) _).alloc (by simp) _).trans (HB1.out.mono (by simp; omega)))
  have c0 := (Blk.new w1 3 86 (I (cmpAll a b 6))).cell (i := 0) (by omega)
  have c2 := (Blk.new w1 3 86 (I (cmpAll a b 6))).cell (i := 2) (by omega)
  simp only [I] at c0 c2
  go_wp2_with (first | (refine wpList_alloc_blk rfl 86 rfl zero3 ?_) | (refine wpList_store_new rfl 86 _ _ rfl rfl rfl (by first | rfl | (simp; done)) sz3 (fun _ _ => rfl) ?_) | fail)
  go_ret
  exact ⟨rfl, HB1.out.alloc (by have := HB1.out.size; omega) _⟩

noncomputable def bothD (a b : Nat → Int) : Bool := dieB a && dieB b
noncomputable def compareV (a b : Nat → Int) : Nat → Int := if bothD a b then cmpAll a b 6 else fun _ => 0
noncomputable def beatV (a b : Nat → Int) : Bool := bothD a b && beatB a b
end Go.Proofs.Ytbfhfadfjgfmaaa
