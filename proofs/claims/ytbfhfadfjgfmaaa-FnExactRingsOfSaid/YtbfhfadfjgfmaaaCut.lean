/- Contracts of functions of this program, used by the laws of this seat. No condition beyond what each theorem states. -/
import Derived.Test.YtbfhfadfjgfmaaaFrac
import Derived.Test.YtbfhfadfjgfmaaaBounds
set_option linter.unusedVariables false
set_option linter.unusedSimpArgs false
set_option linter.unusedSectionVars false
namespace Go.Proofs.Ytbfhfadfjgfmaaa
open Go.RowKit
theorem most_any (a b : Int) (w : World) : Calls Try.prog 81 #[.int .i64 a, .int .i64 b] w fun e w' => e = .returned (.int .i64 (if b < a then a else b)) ∧ w = w' := by
  by_cases h : b < a
  · rw [if_pos h]
    go_enter Try.func81, Try.ntmps81
    go_wp2
    go_ret
    exact ⟨rfl, rfl⟩
  · rw [if_neg h]
    have d1 : decide (b < a) = false := by simp; omega
    go_enter Try.func81, Try.ntmps81
    go_wp2
    go_ret
    exact ⟨rfl, rfl⟩
theorem most1 (r : Int) (hr : 1 ≤ r) (w : World) : Calls Try.prog 81 #[.int .i64 r, .int .i64 1] w fun e w' => e = .returned (.int .i64 r) ∧ w = w' := by
  have h := most_any r 1 w
  rw [show (if 1 < r then r else 1) = r by split <;> omega] at h
  exact h
theorem l2Cut_any (p q : Nat) (hp : p ≤ 1000000000) (hq0 : 0 < q) (hq : q ≤ 1000000000) (w : World) : Calls Try.prog 61 #[.int .i64 (p : Int), .int .i64 (q : Int)] w fun e w' => e = .returned (.agg (row 2 (I (fracV p q)))) ∧ Below w.heap.size w w' := by
  have hgp : 0 < Nat.gcd p q := Nat.gcd_pos_of_pos_right p hq0
  go_enter Try.func61, Try.ntmps61
  go_wp2_with (first | (refine wpList_alloc_blk rfl 43 rfl zero2 ?_) | fail)
  go_loopw [5, 6] (fun a b wr => ∃ r s : Nat, a = .int .i64 (r : Int) ∧ b = .int .i64 (s : Int) ∧ Nat.gcd r s = Nat.gcd p q ∧ r ≤ 1000000000 ∧ s ≤ 1000000000 ∧ Blk wr w.heap.size 2 43 (I fun _ => 0) ∧ Below w.heap.size w wr) (fun a b _ => (intOf b).toNat)
  case atStart => exact ⟨p, q, rfl, rfl, rfl, hp, hq, Blk.new _ _ _ _, (Below.refl _ _).alloc (Nat.le_refl _) _⟩
  case round =>
    obtain ⟨r, s, rfl, rfl, hgc, hr, hs, hR, hb⟩ := hrel
    have HR := Lib.hid hR; have HB := Lib.hid hb
    clear hR hb
    by_cases h0 : s = 0
    · subst h0
      rw [Nat.gcd_zero_right] at hgc
      have d0 : ((r : Int) == 0) = false := by simp; omega
      have r1 : (1 : Int) ≤ (r : Int) := by omega
      have HF := Lib.hid (show (fun i : Nat => if i = 0 then wrap64 ((p : Int) / (r : Int)) else wrap64 ((q : Int) / (r : Int))) = fracV p q by rw [hgc]; exact frac_wrap p q hp hq)
      clear hgc
      go_wp2
      refine wp_region_grown_tail 9 (by kernel_rfl) (by kernel_rfl) ?_
      simp only [List.take_succ_cons, List.take_zero, List.drop_succ_cons, List.drop_zero]
      repeat (first | go_big_quiet_skip | (go_big_quiet_want; (first | (refine grown_build2 _ _ rfl rfl rfl ?_; simp only [Act.put, List.setIfInBounds_toArray, List.set_cons_succ, List.set_cons_zero]; go_big_quiet_on) | (go_big_quiet_op; (first | go_big_quiet_on | (refine ⟨_, fun _ _ => rfl, ?_⟩; go_big_quiet_on) | (apply Exists.intro; refine ⟨fun _ hC => ?_, ?_⟩; (first | (go_at_call 81; exact grown_same hC (most1 _ r1 _))); go_big_quiet_on))))))
      refine wpQuiet_nil ?_
      intro wg hg
      have R2 := Lib.hid (HR.out.below hg.below HR.out.lt)
      have HB2 := Lib.hid (HB.out.trans (hg.below.mono HB.out.size))
      clear hg
      go_wp2_with (first | (refine wpList_store_blk rfl 43 _ _ rfl (R2.out) rfl rfl sz2 (fun _ _ => rfl) ?_) | fail)
      exact post_blk rfl (R2.out.setRow _) rfl Try.underlying43 sz2 rfl ⟨congrArg (fun f => Ending.returned (Value.agg (row 2 (I f)))) HF.out, below_setRow HB2.out (by (focus (first | omega | (simp; done) | (simp; omega)))) _⟩
    · have d0 : decide ((0 : Int) < (s : Int)) = true := by simp; omega
      have d1 : ((s : Int) == 0) = false := by simp; omega
      have e1 : (r : Int) % (s : Int) = ((r % s : Nat) : Int) := rfl
      go_wp2
      go_quiet (fail)
      go_wp2
      go_roundw
      case rel => exact ⟨s, r % s, rfl, by rw [e1], by rw [gcd_step, hgc], by omega, by have := Nat.mod_lt r (by omega : 0 < s); omega, HR.out.drewN _, below_drewN HB.out _⟩
      case measure =>
        have h1 := Nat.mod_lt r (by omega : 0 < s)
        show ((r : Int) % (s : Int)).toNat < ((s : Int)).toNat
        rw [e1]
        generalize r % s = z at *
        omega

/-- The sum of a list of ints. -/
theorem total_any (b n : Nat) (T : TypeId) (d : Nat → Int) (m : Int) (hn : n ≤ 1000) (hm : 0 ≤ m ∧ m ≤ 1000000) (hd : ∀ j, j < n → 0 ≤ d j ∧ d j ≤ m) (w : World) (h0 : Blk w b n T (I d)) :
    Calls Try.prog 95 #[.slice (some ⟨b, 0, none⟩) n n] w fun e w' => e = .returned (.int .i64 (sumF d n)) ∧ w = w' := by
  have H0 := Lib.hid h0; have HD := Lib.hid hd; clear h0 hd
  go_enter Try.func95, Try.ntmps95
  go_wp2
  go_loopw [3, 8] (fun s i wr => ∃ k : Nat, k ≤ n ∧ i = .int .i64 k ∧ s = .int .i64 (sumF d k) ∧ w = wr) (fun s i _ => n - (intOf i).toNat)
  case atStart => exact ⟨0, by omega, rfl, rfl, rfl⟩
  case round =>
    obtain ⟨k, hk, rfl, rfl, rfl⟩ := hrel
    by_cases hlt : k < n
    · have c0 : w.cell? ⟨b, k, none⟩ = some (.int .i64 (d k)) := H0.out.cell hlt
      have h1 := sumF_bd (f := d) (m := m) k (fun j hj => HD.out j (by omega))
      have h2 := HD.out k hlt
      have h3 : m * (k : Int) ≤ 1000000000 := by
        have : m * (k : Int) ≤ 1000000 * 1000 := Int.mul_le_mul hm.2 (by omega) (by omega) (by omega)
        omega
      obtain ⟨e1, e2⟩ := h1
      have e3 : sumF d k ≤ 1000000000 := by omega
      obtain ⟨e4, e5⟩ := h2
      obtain ⟨m1, m2⟩ := hm
      clear e2 h3
      go_wp2
      go_roundw
      case rel => exact ⟨k + 1, by omega, by go_num, rfl, trivial⟩
      case measure => simp [intOf]; omega
    · have e0 : k = n := by omega
      go_wp2
      go_ret
      exact ⟨by (first | rfl | (rw [e0]; rfl)), rfl⟩
end Go.Proofs.Ytbfhfadfjgfmaaa
