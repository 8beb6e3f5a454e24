/- Contracts of functions of this program, used by the laws of this seat. No condition beyond what each theorem states. -/
import Derived.Test.YtbfhfadfjgfmaaaPool
set_option linter.unusedVariables false
set_option linter.unusedSimpArgs false
set_option linter.unusedSectionVars false
namespace Go.Proofs.Ytbfhfadfjgfmaaa
open Go.RowKit
theorem eqPool_any (o1 o2 : Option Addr) (n c1 c2 : Nat) (x : Nat → Nat → Int) (hn : n ≤ 1048576) (w : World) (h1 : PoolAt w o1 n x) (h2 : PoolAt w o2 n x) : Calls Try.prog 14 #[poolV o1 n c1, poolV o2 n c2] w fun e w' => e = .returned (.bool true) ∧ Below w.heap.size w w' := by
  have H1 := Lib.hid h1; have H2 := Lib.hid h2; clear h1 h2
  have d0 : ((n : Int) == (n : Int)) = true := by simp
  go_enter Try.func14, Try.ntmps14
  go_wp2
  go_loopw [5] (fun i wr => ∃ k : Nat, k ≤ n ∧ i = .int .i64 k ∧ Below w.heap.size w wr) (fun i _ => n - (intOf i).toNat)
  case atStart => exact ⟨0, by omega, rfl, Below.refl _ _⟩
  case round =>
    obtain ⟨k, hk, rfl, hb⟩ := hrel
    by_cases hlt : k < n
    · obtain ⟨a1, rfl, ha1, hc1⟩ := H1.out.below hb k hlt
      obtain ⟨a2, rfl, ha2, hc2⟩ := H2.out.below hb k hlt
      have HC1 := Lib.hid hc1; have HC2 := Lib.hid hc2; have HB := Lib.hid hb
      have HA1 := Lib.hid (show (a1.add (k * 6)).block < wr.heap.size by rw [add_block]; exact ha1)
      have HA2 := Lib.hid (show (a2.add (k * 6)).block < wr.heap.size by rw [add_block]; exact ha2)
      clear hc1 hc2 ha1 ha2 hb
      go_wp2
      refine wp_region_grown_lit (by kernel_rfl) (by kernel_rfl) ?_
      repeat (first | go_big_quiet_skip | (go_big_quiet_want; (first | (refine grown_load_cells 53 _ rfl rfl (HA1.out) (HC1.out) Try.isAgg53 sz6 ?_; simp only [Act.put, List.setIfInBounds_toArray, List.set_cons_succ, List.set_cons_zero]; go_big_quiet_on) | (refine grown_load_cells 53 _ rfl rfl (HA2.out) (HC2.out) Try.isAgg53 sz6 ?_; simp only [Act.put, List.setIfInBounds_toArray, List.set_cons_succ, List.set_cons_zero]; go_big_quiet_on) | (go_big_quiet_op; (first | go_big_quiet_on | (refine ⟨_, fun _ _ => rfl, ?_⟩; go_big_quiet_on) | (apply Exists.intro; refine ⟨fun _ hC => ?_, ?_⟩; (first | (go_at_call 46; exact grown_of hC (eqA6_any _ _))); go_big_quiet_on))))))
      refine wpQuiet_nil ?_
      intro wg hg
      have HB1 := Lib.hid (HB.out.trans (hg.below.mono HB.out.size))
      clear hg
      go_wp2
      go_roundw
      case rel => exact ⟨k + 1, by omega, by go_num, HB1.out⟩
      case measure => simp [intOf]; omega
    · obtain rfl : k = n := by omega
      go_wp2
      go_ret
      exact ⟨rfl, hb⟩

noncomputable def poolB (n : Nat) (x : Nat → Nat → Int) : Bool := (decide ((1 : Int) ≤ (n : Int)) && decide ((n : Int) ≤ 4)) && allB (fun i => dieB (x i)) n

theorem l2Pool_any (o : Option Addr) (n c : Nat) (x : Nat → Nat → Int) (hn : n ≤ 1048576) (w : World) (h : PoolAt w o n x) : Calls Try.prog 38 #[poolV o n c] w fun e w' => e = .returned (.bool (poolB n x)) ∧ Below w.heap.size w w' := by
  have H := Lib.hid h; clear h
  go_enter Try.func38, Try.ntmps38
  go_wp2
  go_loopw [3] (fun i wr => ∃ k : Nat, k ≤ n ∧ k ≤ 5 ∧ i = .int .i64 k ∧ Hid (∀ j, j < k → dieB (x j) = true) ∧ Below w.heap.size w wr) (fun i _ => 6 - (intOf i).toNat)
  case atStart => exact ⟨0, by omega, by omega, rfl, (fun j hj => by omega), Below.refl _ _⟩
  case round =>
    obtain ⟨k, hk, hk5, rfl, HO, hb⟩ := hrel
    have HB := Lib.hid hb
    by_cases hlt : k < n
    · have d1 : decide ((k : Int) < (n : Int)) = true := by simp; omega
      by_cases h4 : k ≤ 4
      · have d2 : decide ((k : Int) ≤ 4) = true := by simp; omega
        obtain ⟨a, rfl, ha, hc⟩ := H.out.below hb k hlt
        have HC := Lib.hid hc
        clear hc hb ha
        cases g : dieB (x k)
        · have F := Lib.hid (show poolB n x = false by unfold poolB; rw [allB_false hlt g, Bool.and_false])
          go_wp2_with (first | (refine wpList_load_cells rfl 53 _ rfl rfl (HC.out) Try.isAgg53 sz6 ?_) | fail)
          go_at_call 83
          refine (l2Die_any (x k) _).mono ?_
          rintro e w1 ⟨rfl, hb1⟩
          have HB1 := Lib.hid (HB.out.trans (hb1.mono HB.out.size)); clear hb1
          rw [g]
          go_wp2
          go_ret
          exact ⟨by (rw [F.out]) <;> rfl, HB1.out⟩
        · have G : Hid (∀ j, j < k + 1 → dieB (x j) = true) := fun j hj => if e : j = k then e ▸ g else HO.out j (by omega)
          go_wp2_with (first | (refine wpList_load_cells rfl 53 _ rfl rfl (HC.out) Try.isAgg53 sz6 ?_) | fail)
          go_at_call 83
          refine (l2Die_any (x k) _).mono ?_
          rintro e w1 ⟨rfl, hb1⟩
          have HB1 := Lib.hid (HB.out.trans (hb1.mono HB.out.size)); clear hb1
          rw [g]
          clear g
          go_wp2
          go_roundw
          case rel => exact ⟨k + 1, by omega, by omega, by go_num, G, HB1.out⟩
          case measure => simp [intOf]; omega
      · have d2 : decide ((k : Int) ≤ 4) = false := by simp; omega
        have F := Lib.hid (show poolB n x = (decide ((1 : Int) ≤ (n : Int)) && decide ((n : Int) ≤ 4)) by unfold poolB; rw [show decide ((n : Int) ≤ 4) = false by simp; omega]; simp)
        clear hb
        go_wp2_with (first | (go_at_call 84; refine (in_any _ _ _ _).mono ?_; rintro e w' ⟨rfl, rfl⟩) | fail)
        go_ret
        exact ⟨by (rw [F.out]) <;> rfl, HB.out⟩
    · have d1 : decide ((k : Int) < (n : Int)) = false := by simp; omega
      have F := Lib.hid (show poolB n x = (decide ((1 : Int) ≤ (n : Int)) && decide ((n : Int) ≤ 4)) by
        unfold poolB; rw [(allB_iff (fun i => dieB (x i)) n).2 (fun j hj => HO.out j (by omega)), Bool.and_true])
      clear hb
      go_wp2_with (first | (go_at_call 84; refine (in_any _ _ _ _).mono ?_; rintro e w' ⟨rfl, rfl⟩) | fail)
      go_ret
      exact ⟨by (rw [F.out]) <;> rfl, HB.out⟩
end Go.Proofs.Ytbfhfadfjgfmaaa
