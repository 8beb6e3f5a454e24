/- slices.SortFunc of at most twelve ints by b - a: in descending order. -/
import Derived.Test.YtbfhfadfjgfmaaaPlaces
import Derived.Deep.QuietTactic
import Derived.RegionTactic
import Derived.BigRegion
import Derived.Test.YtbfhfadfjgfmaaaBitsR
set_option linter.unusedVariables false
set_option linter.unusedSimpArgs false
set_option linter.unusedSectionVars false
namespace Go.Proofs.Ytbfhfadfjgfmaaa
open Go.RowKit
theorem grown_drewN {w wr : World} {r : Option Nat} (h : w.grownBy wr r) (k : Nat) : w.grownBy (wr.drewN k) r := ⟨h.os, h.tape, h.output, h.size, h.block⟩
abbrev downV : Value := .func (.func 119) #[] #[]
theorem down_any (a b : Int) (ha : -1000000 ≤ a ∧ a ≤ 1000000) (hb : -1000000 ≤ b ∧ b ≤ 1000000) (w : World) : Calls Try.prog 119 #[.int .i64 a, .int .i64 b] w fun e w' => e = .returned (.int .i64 (b - a)) ∧ w = w' := by
  obtain ⟨a1, a2⟩ := ha
  obtain ⟨b1, b2⟩ := hb
  go_enter Try.func119, Try.ntmps119
  go_wp2
  go_ret
  exact ⟨rfl, rfl⟩
set_option maxHeartbeats 1000000 in
theorem insSort_any (g n : Nat) (r : Nat → Int) (hn : n ≤ 12) (hr : ∀ j, j < n → -1000000 ≤ r j ∧ r j ≤ 1000000) (w : World) (h : Blk w g n 3 (I r)) :
    Calls Try.prog 163 #[.slice (some ⟨g, 0, none⟩) n n, .int .i64 0, .int .i64 (n : Int), downV] w fun e w' => e = .returned (.tuple #[]) ∧ Blk w' g n 3 (I (plF r n)) ∧ w.grownBy w' (some g) := by
  have H := Lib.hid h; clear h
  have HR := Lib.hid hr; clear hr
  go_enter Try.func163, Try.ntmps163
  go_wp2
  go_loopw [8] (fun i wr => ∃ k : Nat, 1 ≤ k ∧ (k ≤ n ∨ k = 1) ∧ i = .int .i64 (k : Int) ∧ Blk wr g n 3 (I fun p => if p < k then plF r k p else r p) ∧ w.grownBy wr (some g)) (fun i _ => 13 - (intOf i).toNat)
  case atStart => exact ⟨1, Nat.le_refl _, .inr rfl, by go_num, H.out.ext (fun p _ => by
    simp only [I]
    by_cases h : p < 1
    · obtain rfl : p = 0 := by omega
      simp [plF, insAt, posF]
    · rw [if_neg h]), grown_refl _ _⟩
  case round =>
    obtain ⟨i, i1, hi, rfl, hB, hG⟩ := hrel
    have B1 := Lib.hid hB; have G1 := Lib.hid hG
    clear hB hG
    by_cases hlt : i < n
    · have d0 : decide (i < n) = true := by simp; omega
      obtain ⟨wo, rfl⟩ : ∃ wo : World, wo = wr := ⟨_, rfl⟩
      go_wp2
      go_loopw [9] (fun t wr => ∃ j : Nat, j ≤ i ∧ t = .int .i64 (j : Int) ∧ Hid (posF (plF r i) (r i) i = posF (plF r i) (r i) j) ∧ Blk wr g n 3 (I (midF r i j)) ∧ w.grownBy wr (some g)) (fun t _ => (intOf t).toNat)
      case atStart => exact ⟨i, Nat.le_refl _, rfl, rfl, B1.out.ext (fun p _ => by simp only [I, midF_start]), G1.out⟩
      case round =>
        obtain ⟨j, hj, rfl, HP, hB, hG⟩ := hrel
        clear B1 G1
        have B2 := Lib.hid hB; have G2 := Lib.hid hG
        clear hB hG
        cases j with
        | zero =>
          have d1 : decide ((0 : Int) < ((0 : Nat) : Int)) = false := by simp
          go_wp2
          go_quiet (fail)
          go_wp2
          go_roundw
          case rel => exact ⟨i + 1, by omega, .inl (by omega), by go_num, (B2.out.drewN _).ext (fun p _ => by simp only [I]; rw [← midF_end, HP.out]; rfl), ⟨G2.out.os, G2.out.tape, G2.out.output, G2.out.size, G2.out.block⟩⟩
          case measure => simp [intOf]; omega
        | succ q =>
          have hv := HR.out i hlt
          have hu := plF_bd HR.out (i := i) (p := q) (by omega) (by omega)
          have c1 : wr.cell? ⟨g, q + 1, none⟩ = some (.int .i64 (r i)) := by rw [B2.out.cell (by omega)]; simp only [I, midF_at r hj]
          have c2 : wr.cell? ⟨g, q, none⟩ = some (.int .i64 (plF r i q)) := by rw [B2.out.cell (by omega)]; simp only [I, midF_before r hj]
          have f1 : wr.frozen? ⟨g, q + 1, none⟩ = false := B2.out.free _
          have f2 : wr.frozen? ⟨g, q, none⟩ = false := B2.out.free _
          have HV := Lib.hid hv; have HU := Lib.hid hu
          by_cases hc : plF r i q < r i
          · have HC := Lib.hid hc
            have d2 : decide (plF r i q - r i < 0) = true := by simp; omega
            go_wp2
            go_quiet ((go_at_call 119; exact quiet_eq (down_any _ _ HV.out HU.out _)))
            go_wp2
            go_region
            go_wp2
            go_roundw
            case rel =>
              refine ⟨q, by omega, by go_num, HP.out.trans (by simp only [posF]; rw [if_pos HC.out]), ?_, ?_⟩
              · refine (((B2.out.drewN _).set (by omega) _).set (by omega) _).ext (fun p _ => ?_)
                rw [I_upd, I_upd]
                simp only [I, midF_swap r hj p]
              · exact grown_set (grown_set (grown_drewN G2.out (nq + 1)) _ _) _ _
            case measure => first | (simp [intOf]; done) | (simp [intOf]; omega)
          · have HC := Lib.hid hc
            have d2 : decide (plF r i q - r i < 0) = false := by simp; omega
            go_wp2
            go_quiet ((go_at_call 119; exact quiet_eq (down_any _ _ HV.out HU.out _)))
            go_wp2
            go_roundw
            case rel => exact ⟨i + 1, by omega, .inl (by omega), by go_num, (B2.out.drewN _).ext (fun p _ => by simp only [I]; rw [← midF_end, HP.out]; simp only [posF]; rw [if_neg (Int.not_lt.2 HC.out)]), ⟨G2.out.os, G2.out.tape, G2.out.output, G2.out.size, G2.out.block⟩⟩
            case measure => simp [intOf]; omega
    · have d0 : decide (i < n) = false := by simp; omega
      go_wp2
      go_end0
      exact ⟨rfl, B1.out.ext (fun p hp => by
        simp only [I]
        obtain rfl : i = n := by omega
        rw [if_pos hp]), G1.out⟩
theorem pdq_any (g n : Nat) (r : Nat → Int) (l : Int) (hn : n ≤ 12) (hr : ∀ j, j < n → -1000000 ≤ r j ∧ r j ≤ 1000000) (w : World) (h : Blk w g n 3 (I r)) :
    Calls Try.prog 145 #[.slice (some ⟨g, 0, none⟩) n n, .int .i64 0, .int .i64 (n : Int), .int .i64 l, downV] w fun e w' => e = .returned (.tuple #[]) ∧ Blk w' g n 3 (I (plF r n)) ∧ w.grownBy w' (some g) := by
  have H := Lib.hid h; clear h
  have HR := Lib.hid hr; clear hr
  have d0 : decide ((n : Int) ≤ 12) = true := by simp; omega
  go_enter Try.func145, Try.ntmps145
  go_wp2
  refine wp_loop_rounds 1 ?_
  rw [rounds_succ]
  go_wp2_with fail
  go_at_call 163
  refine (insSort_any g n r hn HR.out _ H.out).mono ?_
  rintro e w1 ⟨rfl, hB, hG⟩
  go_wp2
  exact bodyPost_ret (v := .tuple #[]) (results_none Try.results145 _ _ _) rfl ⟨rfl, hB, hG⟩
theorem sortFunc_any (g n : Nat) (r : Nat → Int) (hn : n ≤ 12) (hr : ∀ j, j < n → -1000000 ≤ r j ∧ r j ≤ 1000000) (w : World) (h : Blk w g n 3 (I r)) :
    Calls Try.prog 117 #[.slice (some ⟨g, 0, none⟩) n n, downV] w fun e w' => e = .returned (.tuple #[]) ∧ Blk w' g n 3 (I (plF r n)) ∧ w.grownBy w' (some g) := by
  have H := Lib.hid h; clear h
  have HR := Lib.hid hr; clear hr
  go_enter Try.func117, Try.ntmps117
  go_wp2_with fail
  go_at_call 107
  refine (Try.bits_Len (n : Int) w (by omega) (by omega)).mono ?_
  rintro e w' ⟨rfl, rfl⟩
  go_wp2_with fail
  go_at_call 145
  refine (pdq_any g n r _ hn HR.out _ H.out).mono ?_
  rintro e w1 ⟨rfl, hB, hG⟩
  go_wp2
  go_end0
  exact ⟨rfl, hB, hG⟩
end Go.Proofs.Ytbfhfadfjgfmaaa
