/- Written by gen_means.py. -/
import Derived.Test.YtlgpejiepogopaaKeeps
import Derived.Test.YtlgpejiepogopaaMean
import Derived.Test.YtlgpejiepogopaaTable5
import Derived.Test.YtlgpejiepogopaaTable3
set_option linter.unusedVariables false
set_option linter.unusedSimpArgs false
set_option linter.unusedSectionVars false
namespace Go.Proofs.Ytlgpejiepogopaa
open Go.RowKit
theorem idx31v (f : Nat → Int) (k : Nat) (hk : k < 31) (w : World) : (Instr.index 37 (.agg (row 31 (I f))) (.int .i64 (k : Int))).run Try.prog w = .ok (.int .i64 (f k)) w := by
  have h1 : ∀ w, (sizeOf 3).run Try.prog w = .ok 1 w := fun _ => by kernel_rfl
  have h2 : ∀ w, (isAgg 3).run Try.prog w = .ok false w := fun _ => by kernel_rfl
  have h4 : (row 31 (I f))[k]? = some (.int .i64 (f k)) := row_get hk
  have h5 : (0 : Int) ≤ (k : Int) ∧ (k : Int) < 31 := by omega
  simp [Instr.index, run_underlying Try.underlying37, asIntOf, h1, h2, part, h4, h5, go_sem]
  intro h
  omega
def wF (t : Nat → Int) : Nat → Int := fun j => (j : Int) * t j
theorem wF_bd {t : Nat → Int} {N : Nat} (h : ∀ j, j < N → 0 ≤ t j ∧ t j ≤ 1296) (hN : N ≤ 121) : (∀ j, j < N → 0 ≤ wF t j ∧ wF t j ≤ 155520) ∧ ∀ k, k ≤ N → 0 ≤ sumF (wF t) k ∧ sumF (wF t) k ≤ 155520 * k := by
  have h1 : ∀ j, j < N → 0 ≤ wF t j ∧ wF t j ≤ 155520 := fun j hj => mul_le (A := 120) (B := 1296) (a := (j : Int)) (by omega) (h j hj)
  exact ⟨h1, fun k hk => sumF_bd k (fun j hj => h1 j (by omega))⟩
set_option maxHeartbeats 1000000 in
set_option maxRecDepth 100000 in
theorem l4Mean_any (b N : Nat) (ty : TypeId) (t : Nat → Int) (hN : N ≤ 121) (ht : ∀ j, j < N → 0 ≤ t j ∧ t j ≤ 1296) (S : Nat) (hS : sumF t N = (S : Int)) (h0 : 0 < S) (h1 : S ≤ 1296) (w : World) (h : Blk w b N ty (I t)) : Calls Try.prog 98 #[.slice (some ⟨b, 0, none⟩) N N] w fun e w' => e = .returned (.agg (row 2 (I (fracV (sumF (wF t) N).toNat ((S : Int)).toNat)))) ∧ Below w.heap.size w w' := by
  have H := Lib.hid h; clear h
  obtain ⟨q1, q2⟩ := wF_bd ht hN
  have Q1 := Lib.hid q1; have Q2 := Lib.hid q2; have HT := Lib.hid ht; have HS := Lib.hid hS
  have PB := Lib.hid (fun k (hk : k ≤ N) => sumF_bd (f := t) (m := 1296) k (fun j hj => ht j (by omega)))
  clear q1 q2 ht hS
  go_enter Try.func98, Try.ntmps98
  go_wp2_with (first | (refine wpList_alloc_blk rfl 51 rfl zero2 ?_) | fail)
  go_loopw [3, 4, 5] (fun s a i wr => ∃ k : Nat, k ≤ N ∧ i = .int .i64 (k : Int) ∧ s = .int .i64 (sumF (wF t) k) ∧ a = .int .i64 (sumF t k) ∧ w.alloc (.cells (row 2 (I fun _ => 0)) 51) = wr) (fun s a i _ => N - (intOf i).toNat)
  case atStart => exact ⟨0, by omega, rfl, rfl, rfl, rfl⟩
  case round =>
    obtain ⟨k, hk, rfl, rfl, rfl, rfl⟩ := hrel
    obtain ⟨e1, e2⟩ := Q2.out k hk
    obtain ⟨e3, e4⟩ := PB.out k hk
    by_cases hlt : k < N
    · have d0 : decide ((k : Int) < (N : Int)) = true := by simp; omega
      have c1 : (w.alloc (.cells (row 2 (I fun _ => 0)) 51)).cell? ⟨b, k, none⟩ = some (.int .i64 (t k)) := (H.out.alloc _).cell hlt
      obtain ⟨e5, e6⟩ := Q1.out k hlt
      obtain ⟨e7, e8⟩ := HT.out k hlt
      have HW := Lib.hid (show sumF (wF t) k + wF t k = sumF (wF t) (k + 1) from rfl)
      have HP := Lib.hid (show sumF t k + t k = sumF t (k + 1) from rfl)
      obtain ⟨p, hp⟩ : ∃ p, p = wF t k := ⟨_, rfl⟩
      have hm : (k : Int) * t k = p := hp ▸ rfl
      rw [← hp] at e5 e6
      go_wp2
      go_roundw
      case rel => exact ⟨k + 1, by omega, by go_num, by rw [← HW.out, ← hp], by rw [← HP.out], trivial⟩
      case measure => simp [intOf]; omega
    · have d0 : decide ((k : Int) < (N : Int)) = false := by simp; omega
      obtain rfl : k = N := by omega
      have e5 : sumF (wF t) k ≤ 1000000000 := by omega
      rw [HS.out]
      have R1 := Lib.hid (show Blk (w.alloc (.cells (row 2 (I fun _ => 0)) 51)) w.heap.size 2 51 (I fun _ => 0) from Blk.new _ _ _ _)
      have HB1 := Lib.hid (show Below w.heap.size w (w.alloc (.cells (row 2 (I fun _ => 0)) 51)) from (Below.refl _ _).alloc (Nat.le_refl _) _)
      go_wp2_with fail
      go_at_call 107
      refine (l2Cut_int (sumF (wF t) k) (S : Int) e1 e5 (by omega) (by omega) _).mono ?_
      rintro e w3 ⟨rfl, hb3⟩
      have R3 := Lib.hid (R1.out.below hb3 R1.out.lt)
      have HB3 := Lib.hid (HB1.out.trans (hb3.mono HB1.out.size)); clear hb3
      go_wp2_with (first | (refine wpList_store_blk rfl 51 _ _ rfl (R3.out) rfl rfl sz2 (fun _ _ => rfl) ?_) | fail)
      exact post_blk rfl (R3.out.setRow _) rfl Try.underlying51 sz2 rfl ⟨rfl, below_setRow HB3.out (by (focus (first | omega | (simp; done) | (simp; omega)))) _⟩
end Go.Proofs.Ytlgpejiepogopaa
