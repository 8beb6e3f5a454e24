/- Contracts of functions of this program, used by the laws of this seat. No condition beyond what each theorem states. -/
import Derived.Test.YtmhlfpcndgoemaaSym
set_option linter.unusedVariables false
set_option linter.unusedSimpArgs false
set_option linter.unusedSectionVars false
namespace Go.Proofs.Ytmhlfpcndgoemaa
open Go.RowKit
set_option maxHeartbeats 1000000 in
theorem iIsSymmetric_any (o : Option Addr) (n c : Nat) (x : Nat → Nat → Int) (hn : n ≤ 1048576) (w : World) (h : PoolAt w o n x) : Calls Try.prog 94 #[poolV o n c] w fun e w' => e = .returned (.tuple #[.bool (symB n x), .bool (poolB n x)]) ∧ Below w.heap.size w w' := by
  have H := Lib.hid h; clear h
  cases g : poolB n x
  · have HV := Lib.hid (show symB n x = false by unfold symB; rw [g]; rfl)
    rw [HV.out]
    go_enter Try.func94, Try.ntmps94
    go_wp2_with fail
    go_at_call 56
    refine (isPool_any o n c x hn _ H.out).mono ?_
    rintro e w1 ⟨rfl, hb1⟩
    have HB1 := Lib.hid hb1; clear hb1
    rw [g]
    go_wp2
    go_ret2
    exact ⟨rfl, HB1.out⟩
  · have GG := Lib.hid g
    obtain ⟨L, hL⟩ : ∃ L, L = loN n x := ⟨_, rfl⟩
    obtain ⟨U, hU⟩ : ∃ U, U = hiN n x := ⟨_, rfl⟩
    obtain ⟨N, hN⟩ : ∃ N, N = U + 1 - L := ⟨_, rfl⟩
    have u1 : U ≤ 120 := by rw [hU]; exact (hi_eq g).2
    have hL0 := Lib.hid hL; have hU0 := Lib.hid hU
    go_enter Try.func94, Try.ntmps94
    go_wp2_with fail
    go_at_call 56
    refine (isPool_any o n c x hn _ H.out).mono ?_
    rintro e w1 ⟨rfl, hb1⟩
    have HB1 := Lib.hid hb1; clear hb1
    rw [g]
    go_wp2_with fail
    go_at_call 152
    refine (sums_any o n c x hn g _ (H.out.below HB1.out)).mono ?_
    rintro e w2 ⟨rfl, hb2⟩
    have HB2 := Lib.hid (HB1.out.trans (hb2.mono HB1.out.size)); clear hb2
    go_wp2_with (first | (refine wpList_alloc_blk rfl 58 rfl zero121 ?_) | (((with_reducible apply wpList_store_new); (case hw => rfl); (case ho => rfl); (case hx => rfl); (case hy => rfl); (case hg => rfl); (case hi => exact sz121); (case h1 => exact fun _ _ => rfl))) | fail)
    obtain ⟨B, hB0⟩ : ∃ B, B = w2.heap.size := ⟨_, rfl⟩
    have TB := Lib.hid (show Blk (w2.alloc (.cells (row 121 (I (tabF x n))) 58)) B 121 58 (I (tabF x n)) from hB0 ▸ Blk.new _ _ _ _)
    have TW := Lib.hid (HB2.out.alloc HB2.out.size (.cells (row 121 (I (tabF x n))) 58))
    rw [← hB0]
    obtain ⟨w9, hw9⟩ : ∃ w9 : World, w9 = w2.alloc (.cells (row 121 (I (tabF x n))) 58) := ⟨_, rfl⟩
    rw [← hw9]
    rw [← hw9] at TB TW
    go_at_call 148
    refine (bounds_LU o n c x hn g _ (H.out.below TW.out)).mono ?_
    rintro e w3 ⟨rfl, hb3⟩
    have TB := Lib.hid (TB.out.below hb3 TB.out.lt)
    have TW := Lib.hid (TW.out.trans (hb3.mono TW.out.size))
    clear hb3 hw9 g hB0
    rw [← hL, ← hU]
    clear hL hU
    go_wp2
    go_loopw [7] (fun i wr => ∃ k : Nat, k ≤ N ∧ i = .int .i64 ((L + k : Nat) : Int) ∧ Hid (∀ j, j < k → (tabF x n (L + j) == tabF x n (U - j)) = true) ∧ Blk wr B 121 58 (I (tabF x n)) ∧ Below w.heap.size w wr) (fun i _ => 122 - (intOf i).toNat)
    case atStart => exact ⟨0, by omega, rfl, (fun j hj => by omega), TB.out, TW.out⟩
    case round =>
      obtain ⟨k, hk, rfl, HO, hA, hb⟩ := hrel
      have HB := Lib.hid hb
      clear hb TB TW
      by_cases hlt : k < N
      · have d1 : decide (L + k ≤ U) = true := by simp; omega
        have c1 : wr.cell? ⟨B, L + k, none⟩ = some (.int .i64 (tabF x n (L + k))) := hA.cell (by omega)
        have c2 : wr.cell? ⟨B, U - k, none⟩ = some (.int .i64 (tabF x n (U - k))) := hA.cell (by omega)
        have HA := Lib.hid hA
        clear hA
        have e1 : (L : Int) + (U : Int) - ((L + k : Nat) : Int) = ((U - k : Nat) : Int) := by omega
        obtain ⟨s, hs⟩ : ∃ s, s = L + k := ⟨_, rfl⟩
        obtain ⟨t, ht⟩ : ∃ t, t = U - k := ⟨_, rfl⟩
        have s1 : s < 121 := by omega
        have t1 : t < 121 := by omega
        cases gq : (tabF x n (L + k) == tabF x n (U - k))
        all_goals
          have GQ := Lib.hid gq
          have HS2 := Lib.hid hs
          rw [← hs, ← ht] at gq
          rw [← hs] at c1 e1 d1
          rw [← ht] at c2 e1
          rw [← hs]
          have E1 := Lib.hid e1
          clear hs ht
          go_wp2
          go_quiet (fail)
          go_wp2
          first
            | (go_ret2
               exact ⟨by rw [show symB n x = false by unfold symB; rw [← hL0.out, ← hU0.out, ← hN, allB_false (p := fun i => tabF x n (L + i) == tabF x n (U - i)) (k := k) hlt GQ.out, Bool.and_false]]; rfl, below_drewN HB.out _⟩)
            | (go_roundw
               case rel => exact ⟨k + 1, by omega, by rw [HS2.out]; go_num, (fun j hj => if e : j = k then e ▸ GQ.out else HO.out j (by omega)), HA.out.drewN _, below_drewN HB.out _⟩
               case measure => simp [intOf]; omega)
      · have d1 : decide (L + k ≤ U) = false := by simp; omega
        have HF := Lib.hid (show symB n x = true by unfold symB; rw [← hL0.out, ← hU0.out, ← hN, GG.out, Bool.true_and]; exact (allB_iff _ _).2 fun j hj => HO.out j (by omega))
        go_wp2
        go_ret2
        exact ⟨by rw [HF.out]; rfl, HB.out⟩
end Go.Proofs.Ytmhlfpcndgoemaa
