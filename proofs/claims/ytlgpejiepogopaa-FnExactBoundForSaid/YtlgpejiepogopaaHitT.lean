/- Written by gen_hits.py. -/
import Derived.Test.YtlgpejiepogopaaKeeps
import Derived.Test.YtlgpejiepogopaaHits2
import Derived.Test.YtlgpejiepogopaaHits3
set_option linter.unusedVariables false
set_option linter.unusedSimpArgs false
set_option linter.unusedSectionVars false
namespace Go.Proofs.Ytlgpejiepogopaa
open Go.RowKit
def inR (a z b : Int) : Bool := decide (a ≤ z) && decide (z ≤ b)
theorem inR_s (x a b : Int) (w : World) : Calls Try.prog 85 #[.int .i64 x, .int .i64 a, .int .i64 b] w fun e w' => e = .returned (.bool (inR a x b)) ∧ w = w' := in_any x a b w
theorem inR_i (x a b : Int) (w : World) : Calls Try.prog 87 #[.int .i64 x, .int .i64 a, .int .i64 b] w fun e w' => e = .returned (.bool (inR a x b)) ∧ w = w' := within_any x a b w
theorem inR_nat {z : Int} {a b : Int} (ha : 0 ≤ a) (h : inR a z b = true) : ∃ k : Nat, z = (k : Int) ∧ a ≤ (k : Int) ∧ (k : Int) ≤ b := by
  unfold inR at h
  simp only [Bool.and_eq_true, decide_eq_true_eq] at h
  exact ⟨z.toNat, by omega, by omega, by omega⟩
def boundB (z : Int) : Bool := inR 0 z 31
theorem l4Bound_any (z : Int) (w : World) : Calls Try.prog 76 #[.int .i64 z] w fun e w' => e = .returned (.bool (boundB z)) ∧ w = w' := by
  unfold boundB inR
  go_enter Try.func76, Try.ntmps76
  go_wp2_with (first | (go_at_call 85; refine (in_any _ _ _ _).mono ?_; rintro e w' ⟨rfl, rfl⟩) | fail)
  go_ret
  exact ⟨rfl, rfl⟩
theorem isBound_any (z : Int) (w : World) : Calls Try.prog 79 #[.int .i64 z] w fun e w' => e = .returned (.bool (boundB z)) ∧ w = w' := by
  unfold boundB inR
  go_enter Try.func79, Try.ntmps79
  go_wp2_with (first | (go_at_call 87; refine (within_any _ _ _ _).mono ?_; rintro e w' ⟨rfl, rfl⟩) | fail)
  go_ret
  exact ⟨rfl, rfl⟩
noncomputable def hitV (n : Nat) (x : Nat → Nat → Int) (z : Int) : Nat → Int := if (poolB n x) && (boundB z) then hitsF x z n else fun _ => 0
set_option maxHeartbeats 1000000 in
set_option maxRecDepth 100000 in
theorem sHitTable_any (o : Option Addr) (n c : Nat) (x : Nat → Nat → Int) (hn : n ≤ 1048576) (z : Int) (w : World) (h : PoolAt w o n x) : Calls Try.prog 24 #[poolV o n c, .int .i64 z] w fun e w' => e = .returned (.tuple #[.agg (row 5 (I (hitV n x z))), .bool ((poolB n x) && (boundB z))]) ∧ Below w.heap.size w w' := by
  have H := Lib.hid h; clear h
  cases g0 : poolB n x
  · have HZ0 := Lib.hid g0
    clear g0
    have HG := Lib.hid (show ((poolB n x) && (boundB z)) = false by rw [HZ0.out]; rfl)
    have HV := Lib.hid (show hitV n x z = fun _ => 0 by unfold hitV; rw [HG.out]; rfl)
    rw [HV.out]
    go_enter Try.func24, Try.ntmps24
    go_wp2_with (first | (refine wpList_alloc_blk rfl 30 rfl zero5 ?_) | fail)
    go_at_call 75
    refine (l2Pool_any o n c x hn _ (H.out.alloc _)).mono ?_
    rintro e w1 ⟨rfl, hb1⟩
    have HB1 := Lib.hid hb1; clear hb1
    have R1 := Lib.hid (show Blk w1 w.heap.size 5 30 (I fun _ => 0) from (Blk.new _ _ _ _).below HB1.out (by simp))
    have P1 := Lib.hid ((H.out.alloc _).below HB1.out)
    have HB1 := Lib.hid (((Below.refl w.heap.size w).alloc (by omega) _).trans (HB1.out.mono (by simp)))
    rw [HZ0.out]
    go_wp2_with (first | (refine wpList_build0_blk rfl 30 rfl built5 ?_) | (refine wpList_store_blk rfl 30 _ _ rfl (R1.out) rfl rfl sz5 (fun _ _ => rfl) ?_) | fail)
    exact post_blk_tmp rfl (R1.out.setRow _) rfl Try.underlying30 sz5 rfl ⟨rfl, below_setRow HB1.out (by (focus (first | omega | (simp; done) | (simp; omega)))) _⟩
  · have HZ0 := Lib.hid g0
    cases g1 : boundB z
    · have HZ1 := Lib.hid g1
      clear g1
      have HG := Lib.hid (show ((poolB n x) && (boundB z)) = false by rw [HZ0.out, HZ1.out]; rfl)
      have HV := Lib.hid (show hitV n x z = fun _ => 0 by unfold hitV; rw [HG.out]; rfl)
      rw [HV.out]
      go_enter Try.func24, Try.ntmps24
      go_wp2_with (first | (refine wpList_alloc_blk rfl 30 rfl zero5 ?_) | fail)
      go_at_call 75
      refine (l2Pool_any o n c x hn _ (H.out.alloc _)).mono ?_
      rintro e w1 ⟨rfl, hb1⟩
      have HB1 := Lib.hid hb1; clear hb1
      have R1 := Lib.hid (show Blk w1 w.heap.size 5 30 (I fun _ => 0) from (Blk.new _ _ _ _).below HB1.out (by simp))
      have P1 := Lib.hid ((H.out.alloc _).below HB1.out)
      have HB1 := Lib.hid (((Below.refl w.heap.size w).alloc (by omega) _).trans (HB1.out.mono (by simp)))
      rw [HZ0.out]
      go_wp2_with fail
      go_at_call 76
      refine (l4Bound_any z _).mono ?_
      rintro e w' ⟨rfl, rfl⟩
      rw [HZ1.out]
      go_wp2_with (first | (refine wpList_build0_blk rfl 30 rfl built5 ?_) | (refine wpList_store_blk rfl 30 _ _ rfl (R1.out) rfl rfl sz5 (fun _ _ => rfl) ?_) | fail)
      exact post_blk_tmp rfl (R1.out.setRow _) rfl Try.underlying30 sz5 rfl ⟨rfl, below_setRow HB1.out (by (focus (first | omega | (simp; done) | (simp; omega)))) _⟩
    · have HZ1 := Lib.hid g1
      clear g1
      have HG := Lib.hid (show ((poolB n x) && (boundB z)) = true by rw [HZ0.out, HZ1.out]; rfl)
      have HV := Lib.hid (show hitV n x z = hitsF x z n by unfold hitV; rw [HG.out]; rfl)
      rw [HV.out]
      have G1 := Lib.hid g0
      obtain ⟨n1, n4⟩ := pool_le g0
      clear g0
      go_enter Try.func24, Try.ntmps24
      go_wp2_with (first | (refine wpList_alloc_blk rfl 30 rfl zero5 ?_) | fail)
      go_at_call 75
      refine (l2Pool_any o n c x hn _ (H.out.alloc _)).mono ?_
      rintro e w1 ⟨rfl, hb1⟩
      have HB1 := Lib.hid hb1; clear hb1
      have R1 := Lib.hid (show Blk w1 w.heap.size 5 30 (I fun _ => 0) from (Blk.new _ _ _ _).below HB1.out (by simp))
      have P1 := Lib.hid ((H.out.alloc _).below HB1.out)
      have HB1 := Lib.hid (((Below.refl w.heap.size w).alloc (by omega) _).trans (HB1.out.mono (by simp)))
      rw [HZ0.out]
      go_wp2_with fail
      go_at_call 76
      refine (l4Bound_any z _).mono ?_
      rintro e w' ⟨rfl, rfl⟩
      rw [HZ1.out]
      go_wp2_with fail
      go_at_call 77
      refine (l4Hits_any o n c x hn G1.out z _ P1.out).mono ?_
      rintro e w2 ⟨rfl, hb⟩
      have R2 := Lib.hid (R1.out.below hb R1.out.lt)
      have HB2 := Lib.hid (HB1.out.trans (hb.mono HB1.out.size))
      clear hb
      go_wp2_with (first | (refine wpList_store_blk rfl 30 _ _ rfl (R2.out) rfl rfl sz5 (fun _ _ => rfl) ?_) | fail)
      exact post_blk_tmp rfl (R2.out.setRow _) rfl Try.underlying30 sz5 rfl ⟨rfl, below_setRow HB2.out (by (focus (first | omega | (simp; done) | (simp; omega)))) _⟩
set_option maxHeartbeats 1000000 in
set_option maxRecDepth 100000 in
theorem iHitTable_any (o : Option Addr) (n c : Nat) (x : Nat → Nat → Int) (hn : n ≤ 1048576) (z : Int) (w : World) (h : PoolAt w o n x) : Calls Try.prog 26 #[poolV o n c, .int .i64 z] w fun e w' => e = .returned (.tuple #[.agg (row 5 (I (hitV n x z))), .bool ((poolB n x) && (boundB z))]) ∧ Below w.heap.size w w' := by
  have H := Lib.hid h; clear h
  cases g0 : poolB n x
  · have HZ0 := Lib.hid g0
    clear g0
    have HG := Lib.hid (show ((poolB n x) && (boundB z)) = false by rw [HZ0.out]; rfl)
    have HV := Lib.hid (show hitV n x z = fun _ => 0 by unfold hitV; rw [HG.out]; rfl)
    rw [HV.out]
    go_enter Try.func26, Try.ntmps26
    go_wp2_with (first | (refine wpList_alloc_blk rfl 30 rfl zero5 ?_) | fail)
    go_at_call 78
    refine (isPool_any o n c x hn _ (H.out.alloc _)).mono ?_
    rintro e w1 ⟨rfl, hb1⟩
    have HB1 := Lib.hid hb1; clear hb1
    have R1 := Lib.hid (show Blk w1 w.heap.size 5 30 (I fun _ => 0) from (Blk.new _ _ _ _).below HB1.out (by simp))
    have P1 := Lib.hid ((H.out.alloc _).below HB1.out)
    have HB1 := Lib.hid (((Below.refl w.heap.size w).alloc (by omega) _).trans (HB1.out.mono (by simp)))
    rw [HZ0.out]
    go_wp2_with (first | (refine wpList_build0_blk rfl 30 rfl built5 ?_) | (refine wpList_store_blk rfl 30 _ _ rfl (R1.out) rfl rfl sz5 (fun _ _ => rfl) ?_) | fail)
    exact post_blk_tmp rfl (R1.out.setRow _) rfl Try.underlying30 sz5 rfl ⟨rfl, below_setRow HB1.out (by (focus (first | omega | (simp; done) | (simp; omega)))) _⟩
  · have HZ0 := Lib.hid g0
    cases g1 : boundB z
    · have HZ1 := Lib.hid g1
      clear g1
      have HG := Lib.hid (show ((poolB n x) && (boundB z)) = false by rw [HZ0.out, HZ1.out]; rfl)
      have HV := Lib.hid (show hitV n x z = fun _ => 0 by unfold hitV; rw [HG.out]; rfl)
      rw [HV.out]
      go_enter Try.func26, Try.ntmps26
      go_wp2_with (first | (refine wpList_alloc_blk rfl 30 rfl zero5 ?_) | fail)
      go_at_call 78
      refine (isPool_any o n c x hn _ (H.out.alloc _)).mono ?_
      rintro e w1 ⟨rfl, hb1⟩
      have HB1 := Lib.hid hb1; clear hb1
      have R1 := Lib.hid (show Blk w1 w.heap.size 5 30 (I fun _ => 0) from (Blk.new _ _ _ _).below HB1.out (by simp))
      have P1 := Lib.hid ((H.out.alloc _).below HB1.out)
      have HB1 := Lib.hid (((Below.refl w.heap.size w).alloc (by omega) _).trans (HB1.out.mono (by simp)))
      rw [HZ0.out]
      go_wp2_with fail
      go_at_call 79
      refine (isBound_any z _).mono ?_
      rintro e w' ⟨rfl, rfl⟩
      rw [HZ1.out]
      go_wp2_with (first | (refine wpList_build0_blk rfl 30 rfl built5 ?_) | (refine wpList_store_blk rfl 30 _ _ rfl (R1.out) rfl rfl sz5 (fun _ _ => rfl) ?_) | fail)
      exact post_blk_tmp rfl (R1.out.setRow _) rfl Try.underlying30 sz5 rfl ⟨rfl, below_setRow HB1.out (by (focus (first | omega | (simp; done) | (simp; omega)))) _⟩
    · have HZ1 := Lib.hid g1
      clear g1
      have HG := Lib.hid (show ((poolB n x) && (boundB z)) = true by rw [HZ0.out, HZ1.out]; rfl)
      have HV := Lib.hid (show hitV n x z = hitsF x z n by unfold hitV; rw [HG.out]; rfl)
      rw [HV.out]
      have G1 := Lib.hid g0
      obtain ⟨n1, n4⟩ := pool_le g0
      clear g0
      go_enter Try.func26, Try.ntmps26
      go_wp2_with (first | (refine wpList_alloc_blk rfl 30 rfl zero5 ?_) | fail)
      go_at_call 78
      refine (isPool_any o n c x hn _ (H.out.alloc _)).mono ?_
      rintro e w1 ⟨rfl, hb1⟩
      have HB1 := Lib.hid hb1; clear hb1
      have R1 := Lib.hid (show Blk w1 w.heap.size 5 30 (I fun _ => 0) from (Blk.new _ _ _ _).below HB1.out (by simp))
      have P1 := Lib.hid ((H.out.alloc _).below HB1.out)
      have HB1 := Lib.hid (((Below.refl w.heap.size w).alloc (by omega) _).trans (HB1.out.mono (by simp)))
      rw [HZ0.out]
      go_wp2_with fail
      go_at_call 79
      refine (isBound_any z _).mono ?_
      rintro e w' ⟨rfl, rfl⟩
      rw [HZ1.out]
      go_wp2_with fail
      go_at_call 80
      refine (hits_any o n c x G1.out z _ P1.out).mono ?_
      rintro e w2 ⟨rfl, hb⟩
      have R2 := Lib.hid (R1.out.below hb R1.out.lt)
      have HB2 := Lib.hid (HB1.out.trans (hb.mono HB1.out.size))
      clear hb
      go_wp2_with (first | (refine wpList_store_blk rfl 30 _ _ rfl (R2.out) rfl rfl sz5 (fun _ _ => rfl) ?_) | fail)
      exact post_blk_tmp rfl (R2.out.setRow _) rfl Try.underlying30 sz5 rfl ⟨rfl, below_setRow HB2.out (by (focus (first | omega | (simp; done) | (simp; omega)))) _⟩
end Go.Proofs.Ytlgpejiepogopaa
