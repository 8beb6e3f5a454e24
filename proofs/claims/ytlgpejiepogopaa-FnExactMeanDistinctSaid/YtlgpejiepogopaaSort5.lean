/- slices.Sort of at most twelve ints: in ascending order. -/
import Derived.Test.YtlgpejiepogopaaSort4
import Derived.Test.YtlgpejiepogopaaIsDie
set_option linter.unusedVariables false
set_option linter.unusedSimpArgs false
set_option linter.unusedSectionVars false
namespace Go.Proofs.Ytlgpejiepogopaa
open Go.RowKit
/-- The first k numbers in ascending order, the rest as it was. -/
def ngF (r : Nat → Int) : Nat → Int := fun p => - r p
def asF (r : Nat → Int) (k : Nat) : Nat → Int := fun p => - plF (ngF r) k p
theorem ng_swap (r : Nat → Int) {i q : Nat} (h : q + 1 ≤ i) (p : Nat) : upd (upd (fun p => - midF (ngF r) i (q + 1) p) (q + 1) (- plF (ngF r) i q)) q (r i) p = - midF (ngF r) i q p := by
  rw [← midF_swap (ngF r) h p]
  simp only [upd, ngF]
  split
  · omega
  · split <;> rfl
set_option maxHeartbeats 1000000 in
theorem insOrd_any (g n : Nat) (ty : TypeId) (r : Nat → Int) (hn : n ≤ 12) (hr : ∀ j, j < n → -1000000 ≤ r j ∧ r j ≤ 1000000) (w : World) (h : Blk w g n ty (I r)) :
    Calls Try.prog 166 #[.slice (some ⟨g, 0, none⟩) n n, .int .i64 0, .int .i64 (n : Int)] w fun e w' => e = .returned (.tuple #[]) ∧ Blk w' g n ty (I (asF r n)) ∧ w.grownBy w' (some g) := by
  have H := Lib.hid h; clear h
  have HR := Lib.hid hr; clear hr
  go_enter Try.func166, Try.ntmps166
  go_wp2
  go_loopw [6] (fun i wr => ∃ k : Nat, 1 ≤ k ∧ (k ≤ n ∨ k = 1) ∧ i = .int .i64 (k : Int) ∧ Blk wr g n ty (I fun p => if p < k then asF r k p else r p) ∧ w.grownBy wr (some g)) (fun i _ => 13 - (intOf i).toNat)
  case atStart => exact ⟨1, Nat.le_refl _, .inr rfl, by go_num, H.out.ext (fun p _ => by
    simp only [I]
    by_cases h : p < 1
    · obtain rfl : p = 0 := by omega
      simp [asF, ngF, plF, insAt, posF]
    · rw [if_neg h]), grown_refl _ _⟩
  case round =>
    obtain ⟨i, i1, hi, rfl, hB, hG⟩ := hrel
    have B1 := Lib.hid hB; have G1 := Lib.hid hG
    clear hB hG
    by_cases hlt : i < n
    · have d0 : decide (i < n) = true := by simp; omega
      obtain ⟨wo, rfl⟩ : ∃ wo : World, wo = wr := ⟨_, rfl⟩
      go_wp2
      go_loopw [7] (fun t wr => ∃ j : Nat, j ≤ i ∧ t = .int .i64 (j : Int) ∧ Hid (posF (plF (ngF r) i) (ngF r i) i = posF (plF (ngF r) i) (ngF r i) j) ∧ Blk wr g n ty (I fun p => - midF (ngF r) i j p) ∧ w.grownBy wr (some g)) (fun t _ => (intOf t).toNat)
      case atStart => exact ⟨i, Nat.le_refl _, rfl, rfl, B1.out.ext (fun p _ => by simp only [I, ← midF_start]; split <;> simp [asF, ngF]), G1.out⟩
      case round =>
        obtain ⟨j, hj, rfl, HP, hB, hG⟩ := hrel
        clear B1 G1
        have B2 := Lib.hid hB; have G2 := Lib.hid hG
        clear hB hG
        cases j with
        | zero =>
          have d1 : decide ((0 : Int) < ((0 : Nat) : Int)) = false := by simp
          go_wp2
          go_quiet (fail)
          go_wp2
          go_roundw
          case rel => exact ⟨i + 1, by omega, .inl (by omega), by go_num, (B2.out.drewN _).ext (fun p _ => by simp only [I]; rw [show midF (ngF r) i 0 p = midF (ngF r) i (posF (plF (ngF r) i) (ngF r i) i) p by rw [HP.out]; rfl, midF_end]; split <;> simp [asF, ngF]), ⟨G2.out.os, G2.out.tape, G2.out.output, G2.out.size, G2.out.block⟩⟩
          case measure => simp [intOf]; omega
        | succ q =>
          have hv := HR.out i hlt
          have hu := plF_bd (r := ngF r) (a := -1000000) (b := 1000000) (n := n) (fun j hj => by have := HR.out j hj; simp only [ngF]; omega) (i := i) (p := q) (by omega) (by omega)
          obtain ⟨u, hu0⟩ : ∃ u, u = - plF (ngF r) i q := ⟨_, rfl⟩
          have c1 : wr.cell? ⟨g, q + 1, none⟩ = some (.int .i64 (r i)) := by rw [B2.out.cell (by omega)]; simp only [I, midF_at (ngF r) hj, ngF]; simp
          have c2 : wr.cell? ⟨g, q, none⟩ = some (.int .i64 u) := by rw [B2.out.cell (by omega)]; simp only [I, midF_before (ngF r) hj, hu0]
          have f1 : wr.frozen? ⟨g, q + 1, none⟩ = false := B2.out.free _
          have f2 : wr.frozen? ⟨g, q, none⟩ = false := B2.out.free _
          have HU0 := Lib.hid hu0
          clear hu0 hu
          by_cases hc : r i < u
          · have HC := Lib.hid (show _ from hc)
            have d2 : decide (r i < u) = true := by simp; omega
            go_wp2
            go_quiet ((go_at_call 172; exact quiet_eq (less_any _ _ _)))
            go_wp2
            go_region
            go_wp2
            go_roundw
            case rel =>
              refine ⟨q, by omega, by go_num, HP.out.trans (by simp only [posF]; rw [if_pos (by have h1 := HC.out; have h2 := HU0.out; simp only [ngF] at *; omega)]), ?_, ?_⟩
              · refine (((B2.out.drewN _).set (by omega) _).set (by omega) _).ext (fun p _ => ?_)
                rw [I_upd, I_upd]
                simp only [I]
                rw [HU0.out, ng_swap r hj p]
              · exact grown_set (grown_set (grown_drewN G2.out (nq + 1)) _ _) _ _
            case measure => first | (simp [intOf]; done) | (simp [intOf]; omega)
          · have HC := Lib.hid (show _ from hc)
            have d2 : decide (r i < u) = false := by simp; omega
            go_wp2
            go_quiet ((go_at_call 172; exact quiet_eq (less_any _ _ _)))
            go_wp2
            go_roundw
            case rel => exact ⟨i + 1, by omega, .inl (by omega), by go_num, (B2.out.drewN _).ext (fun p _ => by simp only [I]; rw [show midF (ngF r) i (q + 1) p = midF (ngF r) i (posF (plF (ngF r) i) (ngF r i) i) p by rw [HP.out]; simp only [posF]; rw [if_neg (by have h1 := HC.out; have h2 := HU0.out; simp only [ngF] at *; omega)], midF_end]; split <;> simp [asF, ngF]), ⟨G2.out.os, G2.out.tape, G2.out.output, G2.out.size, G2.out.block⟩⟩
            case measure => simp [intOf]; omega
    · have d0 : decide (i < n) = false := by simp; omega
      go_wp2
      go_end0
      exact ⟨rfl, B1.out.ext (fun p hp => by
        simp only [I]
        obtain rfl : i = n := by omega
        rw [if_pos hp]), G1.out⟩
theorem pdqOrd_any (g n : Nat) (ty : TypeId) (r : Nat → Int) (l : Int) (hn : n ≤ 12) (hr : ∀ j, j < n → -1000000 ≤ r j ∧ r j ≤ 1000000) (w : World) (h : Blk w g n ty (I r)) :
    Calls Try.prog 136 #[.slice (some ⟨g, 0, none⟩) n n, .int .i64 0, .int .i64 (n : Int), .int .i64 l] w fun e w' => e = .returned (.tuple #[]) ∧ Blk w' g n ty (I (asF r n)) ∧ w.grownBy w' (some g) := by
  have H := Lib.hid h; clear h
  have HR := Lib.hid hr; clear hr
  have d0 : decide ((n : Int) ≤ 12) = true := by simp; omega
  go_enter Try.func136, Try.ntmps136
  go_wp2
  refine wp_loop_rounds 1 ?_
  rw [rounds_succ]
  go_wp2_with fail
  go_at_call 166
  refine (insOrd_any g n ty r hn HR.out _ H.out).mono ?_
  rintro e w1 ⟨rfl, hB, hG⟩
  go_wp2
  exact bodyPost_ret (v := .tuple #[]) (results_none Try.results136 _ _ _) rfl ⟨rfl, hB, hG⟩
theorem sort_any (g n : Nat) (ty : TypeId) (r : Nat → Int) (hn : n ≤ 12) (hr : ∀ j, j < n → -1000000 ≤ r j ∧ r j ≤ 1000000) (w : World) (h : Blk w g n ty (I r)) :
    Calls Try.prog 74 #[.slice (some ⟨g, 0, none⟩) n n] w fun e w' => e = .returned (.tuple #[]) ∧ Blk w' g n ty (I (asF r n)) ∧ w.grownBy w' (some g) := by
  have H := Lib.hid h; clear h
  have HR := Lib.hid hr; clear hr
  go_enter Try.func74, Try.ntmps74
  go_wp2_with fail
  go_at_call 137
  refine (Try.bits_Len (n : Int) w (by omega) (by omega)).mono ?_
  rintro e w' ⟨rfl, rfl⟩
  go_wp2_with fail
  go_at_call 136
  refine (pdqOrd_any g n ty r _ hn HR.out _ H.out).mono ?_
  rintro e w1 ⟨rfl, hB, hG⟩
  go_wp2
  go_end0
  exact ⟨rfl, hB, hG⟩
end Go.Proofs.Ytlgpejiepogopaa
