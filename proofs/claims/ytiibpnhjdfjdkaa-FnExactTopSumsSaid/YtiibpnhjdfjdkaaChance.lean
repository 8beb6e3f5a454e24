/- ChanceOfSum and ChanceAtLeast, both sides. -/
import Derived.Test.YtiibpnhjdfjdkaaTable3
import Derived.Test.YtiibpnhjdfjdkaaTable5
set_option linter.unusedVariables false
set_option linter.unusedSimpArgs false
set_option linter.unusedSectionVars false
namespace Go.Proofs.Ytiibpnhjdfjdkaa
open Go.RowKit
def inB (z : Int) : Bool := decide ((0 : Int) ≤ z) && decide (z ≤ 120)
theorem inB_nat {z : Int} (h : inB z = true) : ∃ k : Nat, z = (k : Int) ∧ k ≤ 120 := by
  unfold inB at h
  simp only [Bool.and_eq_true, decide_eq_true_eq] at h
  exact ⟨z.toNat, by omega, by omega⟩
theorem grown_indexv {P : Program} {o : Oper} {a : Act} {w0 : World} {K : Act → Prop} {ty : TypeId} {p q : Operand} (ho : o.op = .index ty p q) {V U r : Value} (hx : a.eval p = V) (hy : a.eval q = U)
    (hr : ∀ w, (Instr.index ty V U).run P w = .ok r w) (hk : K (a.put o.dst r)) : o.quiet P a (Grew w0) K := by
  refine ⟨_, fun w hw => ?_, hk⟩
  unfold Oper.quietAt execOp
  simp only [ho, hx, hy, Sem.run_bind, Sem.run_pure, Result.andThen_ok, hr]
  exact ⟨rfl, rfl⟩
theorem grown_index121 {o : Oper} {a : Act} {w0 : World} {K : Act → Prop} {p q : Operand} (ho : o.op = .index 65 p q) {f : Nat → Int} {k : Nat} (hx : a.eval p = .agg (row 121 (I f))) (hy : a.eval q = .int .i64 (k : Int)) (hk : k < 121)
    (hK : K (a.put o.dst (.int .i64 (f k)))) : o.quiet Try.prog a (Grew w0) K := grown_indexv ho hx hy (idx121v f k hk) hK
noncomputable def chanceV (n : Nat) (x : Nat → Nat → Int) (z : Int) : Nat → Int := if poolB n x && inB z then fracV (tabF x n z.toNat).toNat ((sixN n : Int)).toNat else fun _ => 0
noncomputable def leastV (n : Nat) (x : Nat → Nat → Int) (z : Int) : Nat → Int := if poolB n x && inB z then fracV (sumF (tabF x n) 121 - sumF (tabF x n) z.toNat).toNat ((sixN n : Int)).toNat else fun _ => 0
theorem l2Sum_any (o : Option Addr) (n c : Nat) (x : Nat → Nat → Int) (hn : n ≤ 1048576) (z : Int) (w : World) (h : PoolAt w o n x) : Calls Try.prog 77 #[poolV o n c, .int .i64 z] w fun e w' => e = .returned (.bool (poolB n x && inB z)) ∧ Below w.heap.size w w' := by
  have H := Lib.hid h; clear h
  cases g : poolB n x
  · go_enter Try.func77, Try.ntmps77
    go_wp2_with fail
    go_at_call 64
    refine (l2Pool_any o n c x hn _ H.out).mono ?_
    rintro e w1 ⟨rfl, hb1⟩
    have HB1 := Lib.hid hb1; clear hb1
    rw [g]
    go_wp2
    go_ret
    exact ⟨rfl, HB1.out⟩
  · go_enter Try.func77, Try.ntmps77
    go_wp2_with fail
    go_at_call 64
    refine (l2Pool_any o n c x hn _ H.out).mono ?_
    rintro e w1 ⟨rfl, hb1⟩
    have HB1 := Lib.hid hb1; clear hb1
    rw [g]
    go_wp2_with (first | (go_at_call 69; refine (in_any _ _ _ _).mono ?_; rintro e w' ⟨rfl, rfl⟩) | fail)
    go_ret
    exact ⟨rfl, HB1.out⟩
/-- The bounds of a share of the table, as integers. -/
theorem share_bd {n : Nat} {x : Nat → Nat → Int} (g : poolB n x = true) : (∀ k, k < 121 → 0 ≤ tabF x n k ∧ tabF x n k ≤ 1296) ∧ (∀ k, k ≤ 121 → 0 ≤ sumF (tabF x n) k ∧ sumF (tabF x n) k ≤ 1296) ∧ 0 < (sixN n : Int) ∧ (sixN n : Int) ≤ 1296 := by
  obtain ⟨n1, n4⟩ := pool_le g
  refine ⟨fun k hk => tabF_one (pool_small g) n4 k hk, fun k hk => tabF_part (pool_small g) n4 k hk, ?_⟩
  have h1 := (sixN_le n (by omega)).1
  have h2 := sixN_small n4
  omega
theorem sChanceOfSum_any (o : Option Addr) (n c : Nat) (x : Nat → Nat → Int) (hn : n ≤ 1048576) (z : Int) (w : World) (h : PoolAt w o n x) : Calls Try.prog 32 #[poolV o n c, .int .i64 z] w fun e w' => e = .returned (.tuple #[.agg (row 2 (I (chanceV n x z))), .bool (poolB n x && inB z)]) ∧ Below w.heap.size w w' := by
  have H := Lib.hid h; clear h
  cases g : (poolB n x && inB z)
  · have HV := Lib.hid (show chanceV n x z = fun _ => 0 by unfold chanceV; rw [g]; rfl)
    rw [HV.out]
    go_enter Try.func32, Try.ntmps32
    go_wp2_with (first | (refine wpList_alloc_blk rfl 43 rfl zero2 ?_) | fail)
    go_at_call 77
    refine (l2Sum_any o n c x hn z _ (H.out.alloc _)).mono ?_
    rintro e w1 ⟨rfl, hb1⟩
    have HB1 := Lib.hid hb1; clear hb1
    have R1 := Lib.hid (show Blk w1 w.heap.size 2 43 (I fun _ => 0) from (Blk.new _ _ _ _).below HB1.out (by simp))
    have HB1 := Lib.hid (((Below.refl w.heap.size w).alloc (by omega) _).trans (HB1.out.mono (by simp)))
    rw [g]
    go_wp2_with (first | (refine wpList_build0_blk rfl 43 rfl built2 ?_) | (refine wpList_store_blk rfl 43 _ _ rfl (R1.out) rfl rfl sz2 (fun _ _ => rfl) ?_) | fail)
    exact post_blk_tmp rfl (R1.out.setRow _) rfl Try.underlying43 sz2 rfl ⟨rfl, below_setRow HB1.out (by (focus (first | omega | (simp; done) | (simp; omega)))) _⟩
  · have HV := Lib.hid (show chanceV n x z = fracV (tabF x n z.toNat).toNat ((sixN n : Int)).toNat by unfold chanceV; rw [g]; rfl)
    have G := Lib.hid g
    have gg := g
    simp only [Bool.and_eq_true] at gg
    obtain ⟨g1, g2⟩ := gg
    obtain ⟨k, hk, k120⟩ := inB_nat g2
    subst hk
    obtain ⟨n1, n4⟩ := pool_le g1
    obtain ⟨b1, b2, s1, s2⟩ := share_bd g1
    obtain ⟨e1, e2⟩ := b1 k (by omega)
    have e3 : tabF x n k ≤ 1000000000 := by omega
    have s3 : (sixN n : Int) ≤ 1000000000 := by omega
    have G1 := Lib.hid g1
    clear b1 b2 g1 g2 e2 s2
    rw [HV.out]
    go_enter Try.func32, Try.ntmps32
    go_wp2_with (first | (refine wpList_alloc_blk rfl 43 rfl zero2 ?_) | fail)
    go_at_call 77
    refine (l2Sum_any o n c x hn (k : Int) _ (H.out.alloc _)).mono ?_
    rintro e w1 ⟨rfl, hb1⟩
    have HB1 := Lib.hid hb1; clear hb1
    have R1 := Lib.hid (show Blk w1 w.heap.size 2 43 (I fun _ => 0) from (Blk.new _ _ _ _).below HB1.out (by simp))
    have P1 := Lib.hid ((H.out.alloc _).below HB1.out)
    have HB1 := Lib.hid (((Below.refl w.heap.size w).alloc (by omega) _).trans (HB1.out.mono (by simp)))
    rw [g]
    clear g
    go_wp2
    refine wp_region_grown_tail 8 (by kernel_rfl) (by kernel_rfl) ?_
    simp only [List.take_succ_cons, List.take_zero, List.drop_succ_cons, List.drop_zero]
    repeat (first | go_big_quiet_skip | (go_big_quiet_want; (first | (refine grown_index121 (k := k) rfl rfl rfl (by omega) ?_; simp only [Act.put, List.setIfInBounds_toArray, List.set_cons_succ, List.set_cons_zero]; go_big_quiet_on) | (go_big_quiet_op; (first | go_big_quiet_on | (refine ⟨_, fun _ _ => rfl, ?_⟩; go_big_quiet_on) | (apply Exists.intro; refine ⟨fun _ hC => ?_, ?_⟩; (first | (go_at_call 65; with_reducible exact grown_of hC (l2Table_any o n c x hn G1.out _ (P1.out.below hC.below))) | (go_at_call 66; exact grown_same hC (l2All_any n (by omega) _)) | (go_at_call 78; with_reducible exact grown_of hC (l2Cut_int (tabF x n k) (sixN n : Int) e1 e3 s1 s3 _))); go_big_quiet_on))))))
    refine wpQuiet_nil ?_
    intro wg hg
    have R2 := Lib.hid (R1.out.below hg.below R1.out.lt)
    have HB2 := Lib.hid (HB1.out.trans (hg.below.mono HB1.out.size))
    clear hg
    go_wp2_with (first | (refine wpList_store_blk rfl 43 _ _ rfl (R2.out) rfl rfl sz2 (fun _ _ => rfl) ?_) | fail)
    exact post_blk_tmp rfl (R2.out.setRow _) rfl Try.underlying43 sz2 rfl ⟨rfl, below_setRow HB2.out (by (focus (first | omega | (simp; done) | (simp; omega)))) _⟩
theorem iChanceOfSum_any (o : Option Addr) (n c : Nat) (x : Nat → Nat → Int) (hn : n ≤ 1048576) (z : Int) (w : World) (h : PoolAt w o n x) : Calls Try.prog 33 #[poolV o n c, .int .i64 z] w fun e w' => e = .returned (.tuple #[.agg (row 2 (I (chanceV n x z))), .bool (poolB n x && inB z)]) ∧ Below w.heap.size w w' := by
  have H := Lib.hid h; clear h
  cases g1 : poolB n x
  · have HV := Lib.hid (show chanceV n x z = fun _ => 0 by unfold chanceV; rw [g1]; rfl)
    rw [HV.out]
    go_enter Try.func33, Try.ntmps33
    go_wp2_with (first | (refine wpList_alloc_blk rfl 43 rfl zero2 ?_) | fail)
    go_at_call 67
    refine (isPool_any o n c x hn _ (H.out.alloc _)).mono ?_
    rintro e w1 ⟨rfl, hb1⟩
    have HB1 := Lib.hid hb1; clear hb1
    have R1 := Lib.hid (show Blk w1 w.heap.size 2 43 (I fun _ => 0) from (Blk.new _ _ _ _).below HB1.out (by simp))
    have HB1 := Lib.hid (((Below.refl w.heap.size w).alloc (by omega) _).trans (HB1.out.mono (by simp)))
    rw [g1]
    go_wp2_with (first | (refine wpList_build0_blk rfl 43 rfl built2 ?_) | (refine wpList_store_blk rfl 43 _ _ rfl (R1.out) rfl rfl sz2 (fun _ _ => rfl) ?_) | fail)
    exact post_blk_tmp rfl (R1.out.setRow _) rfl Try.underlying43 sz2 rfl ⟨rfl, below_setRow HB1.out (by (focus (first | omega | (simp; done) | (simp; omega)))) _⟩
  · cases g2 : inB z
    · have HV := Lib.hid (show chanceV n x z = fun _ => 0 by unfold chanceV; rw [g1, g2]; rfl)
      have HZ := Lib.hid (show (decide ((0 : Int) ≤ z) && decide (z ≤ 120)) = false from g2)
      rw [HV.out]
      clear g2
      go_enter Try.func33, Try.ntmps33
      go_wp2_with (first | (refine wpList_alloc_blk rfl 43 rfl zero2 ?_) | fail)
      go_at_call 67
      refine (isPool_any o n c x hn _ (H.out.alloc _)).mono ?_
      rintro e w1 ⟨rfl, hb1⟩
      have HB1 := Lib.hid hb1; clear hb1
      have R1 := Lib.hid (show Blk w1 w.heap.size 2 43 (I fun _ => 0) from (Blk.new _ _ _ _).below HB1.out (by simp))
      have HB1 := Lib.hid (((Below.refl w.heap.size w).alloc (by omega) _).trans (HB1.out.mono (by simp)))
      rw [g1]
      go_wp2_with fail
      go_at_call 79
      refine (within_any _ _ _ _).mono ?_
      rintro e w' ⟨rfl, rfl⟩
      rw [HZ.out]
      go_wp2_with (first | (refine wpList_build0_blk rfl 43 rfl built2 ?_) | (refine wpList_store_blk rfl 43 _ _ rfl (R1.out) rfl rfl sz2 (fun _ _ => rfl) ?_) | fail)
      exact post_blk_tmp rfl (R1.out.setRow _) rfl Try.underlying43 sz2 rfl ⟨rfl, below_setRow HB1.out (by (focus (first | omega | (simp; done) | (simp; omega)))) _⟩
    · have HV := Lib.hid (show chanceV n x z = fracV (tabF x n z.toNat).toNat ((sixN n : Int)).toNat by unfold chanceV; rw [g1, g2]; rfl)
      obtain ⟨k, hk, k120⟩ := inB_nat g2
      subst hk
      have HZ := Lib.hid (show (decide ((0 : Int) ≤ (k : Int)) && decide ((k : Int) ≤ 120)) = true from g2)
      obtain ⟨n1, n4⟩ := pool_le g1
      obtain ⟨b1, b2, s1, s2⟩ := share_bd g1
      obtain ⟨e1, e2⟩ := b1 k (by omega)
      have e3 : tabF x n k ≤ 1000000000 := by omega
      have s3 : (sixN n : Int) ≤ 1000000000 := by omega
      have G1 := Lib.hid g1
      clear b1 b2 g2 e2 s2
      rw [HV.out]
      go_enter Try.func33, Try.ntmps33
      go_wp2_with (first | (refine wpList_alloc_blk rfl 43 rfl zero2 ?_) | fail)
      go_at_call 67
      refine (isPool_any o n c x hn _ (H.out.alloc _)).mono ?_
      rintro e w1 ⟨rfl, hb1⟩
      have HB1 := Lib.hid hb1; clear hb1
      have R1 := Lib.hid (show Blk w1 w.heap.size 2 43 (I fun _ => 0) from (Blk.new _ _ _ _).below HB1.out (by simp))
      have P1 := Lib.hid ((H.out.alloc _).below HB1.out)
      have HB1 := Lib.hid (((Below.refl w.heap.size w).alloc (by omega) _).trans (HB1.out.mono (by simp)))
      rw [g1]
      clear g1
      go_wp2_with fail
      go_at_call 79
      refine (within_any _ _ _ _).mono ?_
      rintro e w' ⟨rfl, rfl⟩
      rw [HZ.out]
      go_wp2
      refine wp_region_grown_tail 8 (by kernel_rfl) (by kernel_rfl) ?_
      simp only [List.take_succ_cons, List.take_zero, List.drop_succ_cons, List.drop_zero]
      repeat (first | go_big_quiet_skip | (go_big_quiet_want; (first | (refine grown_index121 (k := k) rfl rfl rfl (by omega) ?_; simp only [Act.put, List.setIfInBounds_toArray, List.set_cons_succ, List.set_cons_zero]; go_big_quiet_on) | (go_big_quiet_op; (first | go_big_quiet_on | (refine ⟨_, fun _ _ => rfl, ?_⟩; go_big_quiet_on) | (apply Exists.intro; refine ⟨fun _ hC => ?_, ?_⟩; (first | (go_at_call 62; with_reducible exact grown_of hC (sums_any o n c x hn G1.out _ (P1.out.below hC.below))) | (go_at_call 68; exact grown_same hC (power_any n (by omega) _)) | (go_at_call 80; with_reducible exact grown_of hC (fraction_int (tabF x n k) (sixN n : Int) e1 e3 s1 s3 _))); go_big_quiet_on))))))
      refine wpQuiet_nil ?_
      intro wg hg
      have R2 := Lib.hid (R1.out.below hg.below R1.out.lt)
      have HB2 := Lib.hid (HB1.out.trans (hg.below.mono HB1.out.size))
      clear hg
      go_wp2_with (first | (refine wpList_store_blk rfl 43 _ _ rfl (R2.out) rfl rfl sz2 (fun _ _ => rfl) ?_) | fail)
      exact post_blk_tmp rfl (R2.out.setRow _) rfl Try.underlying43 sz2 rfl ⟨rfl, below_setRow HB2.out (by (focus (first | omega | (simp; done) | (simp; omega)))) _⟩
end Go.Proofs.Ytiibpnhjdfjdkaa
