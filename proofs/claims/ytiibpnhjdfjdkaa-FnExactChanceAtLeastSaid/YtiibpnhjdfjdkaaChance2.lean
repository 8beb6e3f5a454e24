/- ChanceAtLeast, both sides. -/
import Derived.Test.YtiibpnhjdfjdkaaChance
set_option linter.unusedVariables false
set_option linter.unusedSimpArgs false
set_option linter.unusedSectionVars false
namespace Go.Proofs.Ytiibpnhjdfjdkaa
open Go.RowKit
theorem wpList_slice_lo {P : Program} {ops : Array Oper} {rest : List Oper} {o : Oper} {a : Act} {w : World} {Q : Exit → Act → World → Prop} (hw : Region.wanted o (yielded ops a.tmps) = true) {ty : TypeId} {p l : Operand} (ho : o.op = .slice ty p (some l) none none) {V L r : Value}
    (hx : a.eval p = V) (hy : a.eval l = L) (hr : ∀ w, (Instr.sliceAt ty V (some L) none none).run P w = .ok r w) (h : wpList P ops Q rest (a.put o.dst r) w) : wpList P ops Q (o :: rest) a w := by
  unfold wpList
  rw [if_pos hw]
  left
  unfold Oper.wp execOp
  simp only [ho, hx, hy, Sem.run_bind, Sem.run_pure, Option.map_some, Option.map_none, hr, Result.andThen_ok]
  exact h
theorem slice121 (b k : Nat) (hk : k ≤ 120) (w : World) : (Instr.sliceAt 65 (.pointer (some ⟨b, 0, none⟩)) (some (.int .i64 (k : Int))) none none).run Try.prog w = .ok (.slice (some ⟨b, k, none⟩) (121 - k) (121 - k)) w := by
  have hl : Try.prog.arrayLen 65 = 121 := by kernel_rfl
  have he : Try.prog.elem 65 = 3 := by kernel_rfl
  have hs : ∀ w, (sizeOf 3).run Try.prog w = .ok 1 w := fun _ => by kernel_rfl
  have h := run_sliceAt_array_l (P := Try.prog) w 65 ⟨b, 0, none⟩ (by kernel_rfl) .i64 (k : Int) (by omega) (by rw [hl]; omega)
  rw [h, he, hs, hl]
  simp only [Result.andThen_ok, slicedAt, Int.toNat_natCast]
  rw [if_neg (by omega), addr_add, Nat.zero_add, Nat.mul_one]
/-- The sum of a list of ints that lies anywhere. -/
theorem total_at (p : Addr) (n c : Nat) (d : Nat → Int) (m : Int) (hn : n ≤ 1000) (hm : 0 ≤ m ∧ m ≤ 1000000) (hd : ∀ j, j < n → 0 ≤ d j ∧ d j ≤ m) (w : World) (h0 : ∀ j, j < n → w.cell? (p.add j) = some (.int .i64 (d j))) :
    Calls Try.prog 83 #[.slice (some p) n c] w fun e w' => e = .returned (.int .i64 (sumF d n)) ∧ w = w' := by
  have H0 := Lib.hid h0; have HD := Lib.hid hd; clear h0 hd
  go_enter Try.func83, Try.ntmps83
  go_wp2
  go_loopw [3, 8] (fun s i wr => ∃ k : Nat, k ≤ n ∧ i = .int .i64 k ∧ s = .int .i64 (sumF d k) ∧ w = wr) (fun s i _ => n - (intOf i).toNat)
  case atStart => exact ⟨0, by omega, rfl, rfl, rfl⟩
  case round =>
    obtain ⟨k, hk, rfl, rfl, rfl⟩ := hrel
    by_cases hlt : k < n
    · have c0 : w.cell? (p.add k) = some (.int .i64 (d k)) := H0.out k hlt
      have h1 := sumF_bd (f := d) (m := m) k (fun j hj => HD.out j (by omega))
      have h2 := HD.out k hlt
      have h3 : m * (k : Int) ≤ 1000000000 := by
        have : m * (k : Int) ≤ 1000000 * 1000 := Int.mul_le_mul hm.2 (by omega) (by omega) (by omega)
        omega
      obtain ⟨e1, e2⟩ := h1
      have e3 : sumF d k ≤ 1000000000 := by omega
      obtain ⟨e4, e5⟩ := h2
      obtain ⟨m1, m2⟩ := hm
      clear e2 h3
      go_wp2
      go_roundw
      case rel => exact ⟨k + 1, by omega, by go_num, rfl, trivial⟩
      case measure => simp [intOf]; omega
    · have e0 : k = n := by omega
      go_wp2
      go_ret
      exact ⟨by (first | rfl | (rw [e0]; rfl)), rfl⟩
set_option maxHeartbeats 1000000 in
theorem sChanceAtLeast_any (o : Option Addr) (n c : Nat) (x : Nat → Nat → Int) (hn : n ≤ 1048576) (z : Int) (w : World) (h : PoolAt w o n x) : Calls Try.prog 38 #[poolV o n c, .int .i64 z] w fun e w' => e = .returned (.tuple #[.agg (row 2 (I (leastV n x z))), .bool (poolB n x && inB z)]) ∧ Below w.heap.size w w' := by
  have H := Lib.hid h; clear h
  cases g : (poolB n x && inB z)
  · have HV := Lib.hid (show leastV n x z = fun _ => 0 by unfold leastV; rw [g]; rfl)
    rw [HV.out]
    go_enter Try.func38, Try.ntmps38
    go_wp2_with (first | (refine wpList_alloc_blk rfl 43 rfl zero2 ?_) | fail)
    go_at_call 77
    refine (l2Sum_any o n c x hn z _ (H.out.alloc _)).mono ?_
    rintro e w1 ⟨rfl, hb1⟩
    have HB1 := Lib.hid hb1; clear hb1
    have R1 := Lib.hid (show Blk w1 w.heap.size 2 43 (I fun _ => 0) from (Blk.new _ _ _ _).below HB1.out (by simp))
    have HB1 := Lib.hid (((Below.refl w.heap.size w).alloc (by omega) _).trans (HB1.out.mono (by simp)))
    rw [g]
    go_wp2_with (first | (refine wpList_build0_blk rfl 43 rfl built2 ?_) | (refine wpList_store_blk rfl 43 _ _ rfl (R1.out) rfl rfl sz2 (fun _ _ => rfl) ?_) | fail)
    exact post_blk_tmp rfl (R1.out.setRow _) rfl Try.underlying43 sz2 rfl ⟨rfl, below_setRow HB1.out (by (focus (first | omega | (simp; done) | (simp; omega)))) _⟩
  · have HV := Lib.hid (show leastV n x z = fracV (sumF (tabF x n) 121 - sumF (tabF x n) z.toNat).toNat ((sixN n : Int)).toNat by unfold leastV; rw [g]; rfl)
    have gg := g
    simp only [Bool.and_eq_true] at gg
    obtain ⟨g1, g2⟩ := gg
    obtain ⟨k, hk, k120⟩ := inB_nat g2
    subst hk
    obtain ⟨n1, n4⟩ := pool_le g1
    obtain ⟨b1, b2, s1, s2⟩ := share_bd g1
    have s3 : (sixN n : Int) ≤ 1000000000 := by omega
    have G1 := Lib.hid g1
    have B1 := Lib.hid b1
    have B2 := Lib.hid b2
    have B3 := Lib.hid (fun j (hj : k ≤ j) (hj2 : j ≤ 121) => show sumF (tabF x n) k ≤ sumF (tabF x n) j by
      have := sumF_from (tabF x n) k (j - k)
      have e : k + (j - k) = j := by omega
      rw [e] at this
      have h0 := (sumF_bd (f := fun i => tabF x n (k + i)) (m := 1296) (j - k) (fun i hi => b1 (k + i) (by omega))).1
      omega)
    clear b1 b2 g1 g2 s2
    rw [HV.out]
    obtain ⟨t, ht⟩ : ∃ t, t = tabF x n := ⟨_, rfl⟩
    have HT := Lib.hid ht
    rw [← ht] at B1 B2 B3
    rw [← ht]
    clear ht
    go_enter Try.func38, Try.ntmps38
    go_wp2_with (first | (refine wpList_alloc_blk rfl 43 rfl zero2 ?_) | fail)
    go_at_call 77
    refine (l2Sum_any o n c x hn (k : Int) _ (H.out.alloc _)).mono ?_
    rintro e w1 ⟨rfl, hb1⟩
    have HB1 := Lib.hid hb1; clear hb1
    have R1 := Lib.hid (show Blk w1 w.heap.size 2 43 (I fun _ => 0) from (Blk.new _ _ _ _).below HB1.out (by simp))
    have P1 := Lib.hid ((H.out.alloc _).below HB1.out)
    have HB1 := Lib.hid (((Below.refl w.heap.size w).alloc (by omega) _).trans (HB1.out.mono (by simp)))
    rw [g]
    clear g
    go_wp2_with fail
    go_at_call 65
    refine (l2Table_any o n c x hn G1.out _ P1.out).mono ?_
    rintro e w2 ⟨rfl, hb2⟩
    have R2 := Lib.hid (R1.out.below hb2 R1.out.lt)
    have HB2 := Lib.hid (HB1.out.trans (hb2.mono HB1.out.size)); clear hb2
    rw [← HT.out]
    go_wp2_with (first | (refine wpList_alloc_blk rfl 65 rfl zero121 ?_) | (((with_reducible apply wpList_store_new); (case hw => rfl); (case ho => rfl); (case hx => rfl); (case hy => rfl); (case hg => rfl); (case hi => exact sz121); (case h1 => exact fun _ _ => rfl))) | fail)
    obtain ⟨B, hB0⟩ : ∃ B, B = w2.heap.size := ⟨_, rfl⟩
    have TB := Lib.hid (show Blk (w2.alloc (.cells (row 121 (I t)) 65)) B 121 65 (I t) from hB0 ▸ Blk.new _ _ _ _)
    have R3 := Lib.hid (R2.out.alloc (.cells (row 121 (I t)) 65))
    have TW := Lib.hid (HB2.out.alloc HB2.out.size (.cells (row 121 (I t)) 65))
    rw [← hB0]
    clear hB0
    go_loopw [6, 8] (fun m i wr => ∃ j : Nat, k ≤ j ∧ j ≤ 121 ∧ i = .int .i64 (j : Int) ∧ m = .int .i64 (sumF t j - sumF t k) ∧ Blk wr w.heap.size 2 43 (I fun _ => 0) ∧ Blk wr B 121 65 (I t) ∧ Below w.heap.size w wr) (fun m i _ => 122 - (intOf i).toNat)
    case atStart => exact ⟨k, by omega, by omega, rfl, by simp, R3.out, TB.out, TW.out⟩
    case round =>
      obtain ⟨j, hj1, hj, rfl, rfl, hR, hA, hb⟩ := hrel
      clear TB TW R3
      obtain ⟨e1, e2⟩ := B2.out j hj
      obtain ⟨e3, e4⟩ := B2.out k (by omega)
      have e5 := B3.out j hj1 hj
      by_cases hlt : j < 121
      · have d1 : decide ((j : Int) < 121) = true := by simp; omega
        have c1 : wr.cell? ⟨B, j, none⟩ = some (.int .i64 (t j)) := hA.cell hlt
        obtain ⟨e6, e7⟩ := B1.out j hlt
        have HS := Lib.hid (show sumF t j - sumF t k + t j = sumF t (j + 1) - sumF t k by rw [sumF_succ]; omega)
        have HA := Lib.hid hA; have HB := Lib.hid hb; have HR := Lib.hid hR
        clear hA hb hR
        go_wp2
        go_roundw
        case rel => exact ⟨j + 1, by omega, by omega, by go_num, by rw [HS.out], HR.out, HA.out, HB.out⟩
        case measure => simp [intOf]; omega
      · obtain rfl : j = 121 := by omega
        have HB := Lib.hid hb; have HR := Lib.hid hR
        have f1 : 0 ≤ sumF t 121 - sumF t k := by omega
        have f2 : sumF t 121 - sumF t k ≤ 1000000000 := by omega
        clear hA hb hR
        go_wp2_with (first | (go_at_call 66; refine (l2All_any n (by omega) _).mono ?_; rintro e w' ⟨rfl, rfl⟩) | fail)
        go_at_call 78
        refine (l2Cut_int (sumF t 121 - sumF t k) (sixN n : Int) f1 f2 s1 s3 _).mono ?_
        rintro e w3 ⟨rfl, hb3⟩
        have R3 := Lib.hid (HR.out.below hb3 HR.out.lt)
        have HB3 := Lib.hid (HB.out.trans (hb3.mono HB.out.size)); clear hb3
        go_wp2_with (first | (refine wpList_store_blk rfl 43 _ _ rfl (R3.out) rfl rfl sz2 (fun _ _ => rfl) ?_) | fail)
        exact post_blk_tmp rfl (R3.out.setRow _) rfl Try.underlying43 sz2 rfl ⟨rfl, below_setRow HB3.out (by (focus (first | omega | (simp; done) | (simp; omega)))) _⟩
set_option maxHeartbeats 1000000 in
theorem iChanceAtLeast_any (o : Option Addr) (n c : Nat) (x : Nat → Nat → Int) (hn : n ≤ 1048576) (z : Int) (w : World) (h : PoolAt w o n x) : Calls Try.prog 39 #[poolV o n c, .int .i64 z] w fun e w' => e = .returned (.tuple #[.agg (row 2 (I (leastV n x z))), .bool (poolB n x && inB z)]) ∧ Below w.heap.size w w' := by
  have H := Lib.hid h; clear h
  cases g1 : poolB n x
  · have HV := Lib.hid (show leastV n x z = fun _ => 0 by unfold leastV; rw [g1]; rfl)
    rw [HV.out]
    go_enter Try.func39, Try.ntmps39
    go_wp2_with (first | (refine wpList_alloc_blk rfl 43 rfl zero2 ?_) | fail)
    go_at_call 67
    refine (isPool_any o n c x hn _ (H.out.alloc _)).mono ?_
    rintro e w1 ⟨rfl, hb1⟩
    have HB1 := Lib.hid hb1; clear hb1
    have R1 := Lib.hid (show Blk w1 w.heap.size 2 43 (I fun _ => 0) from (Blk.new _ _ _ _).below HB1.out (by simp))
    have HB1 := Lib.hid (((Below.refl w.heap.size w).alloc (by omega) _).trans (HB1.out.mono (by simp)))
    rw [g1]
    go_wp2_with (first | (refine wpList_build0_blk rfl 43 rfl built2 ?_) | (refine wpList_store_blk rfl 43 _ _ rfl (R1.out) rfl rfl sz2 (fun _ _ => rfl) ?_) | fail)
    exact post_blk_tmp rfl (R1.out.setRow _) rfl Try.underlying43 sz2 rfl ⟨rfl, below_setRow HB1.out (by (focus (first | omega | (simp; done) | (simp; omega)))) _⟩
  · cases g2 : inB z
    · have HV := Lib.hid (show leastV n x z = fun _ => 0 by unfold leastV; rw [g1, g2]; rfl)
      have HZ := Lib.hid (show (decide ((0 : Int) ≤ z) && decide (z ≤ 120)) = false from g2)
      rw [HV.out]
      clear g2
      go_enter Try.func39, Try.ntmps39
      go_wp2_with (first | (refine wpList_alloc_blk rfl 43 rfl zero2 ?_) | fail)
      go_at_call 67
      refine (isPool_any o n c x hn _ (H.out.alloc _)).mono ?_
      rintro e w1 ⟨rfl, hb1⟩
      have HB1 := Lib.hid hb1; clear hb1
      have R1 := Lib.hid (show Blk w1 w.heap.size 2 43 (I fun _ => 0) from (Blk.new _ _ _ _).below HB1.out (by simp))
      have HB1 := Lib.hid (((Below.refl w.heap.size w).alloc (by omega) _).trans (HB1.out.mono (by simp)))
      rw [g1]
      go_wp2_with fail
      go_at_call 79
      refine (within_any _ _ _ _).mono ?_
      rintro e w' ⟨rfl, rfl⟩
      rw [HZ.out]
      go_wp2_with (first | (refine wpList_build0_blk rfl 43 rfl built2 ?_) | (refine wpList_store_blk rfl 43 _ _ rfl (R1.out) rfl rfl sz2 (fun _ _ => rfl) ?_) | fail)
      exact post_blk_tmp rfl (R1.out.setRow _) rfl Try.underlying43 sz2 rfl ⟨rfl, below_setRow HB1.out (by (focus (first | omega | (simp; done) | (simp; omega)))) _⟩
    · have HV := Lib.hid (show leastV n x z = fracV (sumF (tabF x n) 121 - sumF (tabF x n) z.toNat).toNat ((sixN n : Int)).toNat by unfold leastV; rw [g1, g2]; rfl)
      obtain ⟨k, hk, k120⟩ := inB_nat g2
      subst hk
      have HZ := Lib.hid (show (decide ((0 : Int) ≤ (k : Int)) && decide ((k : Int) ≤ 120)) = true from g2)
      obtain ⟨n1, n4⟩ := pool_le g1
      obtain ⟨b1, b2, s1, s2⟩ := share_bd g1
      have s3 : (sixN n : Int) ≤ 1000000000 := by omega
      have HS := Lib.hid (show sumF (fun i => tabF x n (k + i)) (121 - k) = sumF (tabF x n) 121 - sumF (tabF x n) k by
        rw [sumF_from, show k + (121 - k) = 121 by omega])
      have HD := Lib.hid (show ∀ j, j < 121 - k → 0 ≤ tabF x n (k + j) ∧ tabF x n (k + j) ≤ 1296 from fun j hj => b1 (k + j) (by omega))
      have f0 := sumF_bd (f := fun i => tabF x n (k + i)) (m := 1296) (121 - k) HD.out
      rw [HS.out] at f0
      have f1 : 0 ≤ sumF (tabF x n) 121 - sumF (tabF x n) k := f0.1
      have f2 : sumF (tabF x n) 121 - sumF (tabF x n) k ≤ 1000000000 := by omega
      have F := Lib.hid (And.intro f1 f2)
      have G1 := Lib.hid g1
      clear b1 b2 g2 s2 f0 f1 f2
      rw [HV.out]
      go_enter Try.func39, Try.ntmps39
      go_wp2_with (first | (refine wpList_alloc_blk rfl 43 rfl zero2 ?_) | fail)
      go_at_call 67
      refine (isPool_any o n c x hn _ (H.out.alloc _)).mono ?_
      rintro e w1 ⟨rfl, hb1⟩
      have HB1 := Lib.hid hb1; clear hb1
      have R1 := Lib.hid (show Blk w1 w.heap.size 2 43 (I fun _ => 0) from (Blk.new _ _ _ _).below HB1.out (by simp))
      have P1 := Lib.hid ((H.out.alloc _).below HB1.out)
      have HB1 := Lib.hid (((Below.refl w.heap.size w).alloc (by omega) _).trans (HB1.out.mono (by simp)))
      rw [g1]
      clear g1
      go_wp2_with fail
      go_at_call 79
      refine (within_any _ _ _ _).mono ?_
      rintro e w' ⟨rfl, rfl⟩
      rw [HZ.out]
      go_wp2_with fail
      go_at_call 62
      refine (sums_any o n c x hn G1.out _ P1.out).mono ?_
      rintro e w2 ⟨rfl, hb2⟩
      have R2 := Lib.hid (R1.out.below hb2 R1.out.lt)
      have HB2 := Lib.hid (HB1.out.trans (hb2.mono HB1.out.size)); clear hb2
      have hs := Lib.hid (slice121 w2.heap.size k k120)
      go_wp2_with (first | (refine wpList_alloc_blk rfl 65 rfl zero121 ?_) | (((with_reducible apply wpList_store_new); (case hw => rfl); (case ho => rfl); (case hx => rfl); (case hy => rfl); (case hg => rfl); (case hi => exact sz121); (case h1 => exact fun _ _ => rfl))) | (((with_reducible apply wpList_slice_lo); (case hw => rfl); (case ho => rfl); (case hx => rfl); (case hy => rfl); (case hr => exact hs.out))) | fail)
      have A3 := Lib.hid (show Blk (w2.alloc (.cells (row 121 (I (tabF x n))) 65)) w2.heap.size 121 65 (I (tabF x n)) from Blk.new _ _ _ _)
      have R3 := Lib.hid (R2.out.alloc (.cells (row 121 (I (tabF x n))) 65))
      have HB3 := Lib.hid (HB2.out.alloc HB2.out.size (.cells (row 121 (I (tabF x n))) 65))
      obtain ⟨w9, hw9⟩ : ∃ w9 : World, w9 = w2.alloc (.cells (row 121 (I (tabF x n))) 65) := ⟨_, rfl⟩
      rw [← hw9]
      rw [← hw9] at A3 R3 HB3
      clear hw9 hs
      go_at_call 83
      refine (total_at ⟨w2.heap.size, k, none⟩ (121 - k) (121 - k) (fun i => tabF x n (k + i)) 1296 (by omega) (by omega) HD.out _ (fun j hj => by rw [addr_add]; exact A3.out.cell (by omega))).mono ?_
      rintro e w' ⟨rfl, rfl⟩
      rw [HS.out]
      obtain ⟨f1, f2⟩ := F.out
      go_wp2_with (first | (go_at_call 68; refine (power_any n (by omega) _).mono ?_; rintro e w' ⟨rfl, rfl⟩) | fail)
      go_at_call 80
      refine (fraction_int (sumF (tabF x n) 121 - sumF (tabF x n) k) (sixN n : Int) f1 f2 s1 s3 _).mono ?_
      rintro e w4 ⟨rfl, hb4⟩
      have R4 := Lib.hid (R3.out.below hb4 R3.out.lt)
      have HB4 := Lib.hid (HB3.out.trans (hb4.mono HB3.out.size)); clear hb4
      go_wp2_with (first | (refine wpList_store_blk rfl 43 _ _ rfl (R4.out) rfl rfl sz2 (fun _ _ => rfl) ?_) | fail)
      exact post_blk_tmp rfl (R4.out.setRow _) rfl Try.underlying43 sz2 rfl ⟨rfl, below_setRow HB4.out (by (focus (first | omega | (simp; done) | (simp; omega)))) _⟩
end Go.Proofs.Ytiibpnhjdfjdkaa
