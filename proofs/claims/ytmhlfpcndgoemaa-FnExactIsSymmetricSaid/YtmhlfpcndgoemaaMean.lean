/- Contracts of functions of this program, used by the laws of this seat. No condition beyond what each theorem states. -/
import Derived.Test.YtmhlfpcndgoemaaCut
import Derived.Test.YtmhlfpcndgoemaaSafest2
set_option linter.unusedVariables false
set_option linter.unusedSimpArgs false
set_option linter.unusedSectionVars false
namespace Go.Proofs.Ytmhlfpcndgoemaa
open Go.RowKit
theorem l2Cut_int (z y : Int) (h0 : 0 ≤ z) (h1 : z ≤ 1000000000) (h2 : 0 < y) (h3 : y ≤ 1000000000) (w : World) : Calls Try.prog 155 #[.int .i64 z, .int .i64 y] w fun e w' => e = .returned (.agg (row 2 (I (fracV z.toNat y.toNat)))) ∧ Below w.heap.size w w' := by
  obtain ⟨p, rfl⟩ := Int.eq_ofNat_of_zero_le h0
  obtain ⟨q, rfl⟩ := Int.eq_ofNat_of_zero_le (Int.le_of_lt h2)
  exact l2Cut_any p q (by omega) (by omega) (by omega) w
theorem fraction_int (z y : Int) (h0 : 0 ≤ z) (h1 : z ≤ 1000000000) (h2 : 0 < y) (h3 : y ≤ 1000000000) (w : World) : Calls Try.prog 157 #[.int .i64 z, .int .i64 y] w fun e w' => e = .returned (.agg (row 2 (I (fracV z.toNat y.toNat)))) ∧ Below w.heap.size w w' := by
  obtain ⟨p, rfl⟩ := Int.eq_ofNat_of_zero_le h0
  obtain ⟨q, rfl⟩ := Int.eq_ofNat_of_zero_le (Int.le_of_lt h2)
  exact fraction_any p q (by omega) (by omega) (by omega) w
def dieSum (x : Nat → Nat → Int) (i : Nat) : Int := sumF (x i) 6
def allF (x : Nat → Nat → Int) (k : Nat) : Int := sumF (dieSum x) k
theorem dieSum_bd {n : Nat} {x : Nat → Nat → Int} (h : ∀ i, i < n → Small (x i)) (i : Nat) (hi : i < n) : 0 ≤ dieSum x i ∧ dieSum x i ≤ 180 := by
  have := sumF_bd (f := x i) (m := 30) 6 (fun j hj => h i hi j hj)
  unfold dieSum
  omega
theorem allF_bd {n : Nat} {x : Nat → Nat → Int} (h : ∀ i, i < n → Small (x i)) (k : Nat) (hk : k ≤ n) : 0 ≤ allF x k ∧ allF x k ≤ 180 * k := by
  have := sumF_bd (f := dieSum x) (m := 180) k (fun j hj => dieSum_bd h j (by omega))
  exact this
noncomputable def meanV (n : Nat) (x : Nat → Nat → Int) : Nat → Int := if poolB n x then fracV (allF x n).toNat (6 : Int).toNat else fun _ => 0

theorem sMeanOf_any (o : Option Addr) (n c : Nat) (x : Nat → Nat → Int) (hn : n ≤ 1048576) (w : World) (h : PoolAt w o n x) : Calls Try.prog 80 #[poolV o n c] w fun e w' => e = .returned (.tuple #[.agg (row 2 (I (meanV n x))), .bool (poolB n x)]) ∧ Below w.heap.size w w' := by
  have H := Lib.hid h; clear h
  cases g : poolB n x
  · have HV := Lib.hid (show meanV n x = fun _ => 0 by unfold meanV; rw [g]; rfl)
    rw [HV.out]
    go_enter Try.func80, Try.ntmps80
    go_wp2_with (first | (refine wpList_alloc_blk rfl 64 rfl zero2 ?_) | fail)
    go_at_call 139
    refine (l2Pool_any o n c x hn _ (H.out.alloc _)).mono ?_
    rintro e w1 ⟨rfl, hb1⟩
    have HB1 := Lib.hid hb1; clear hb1
    have R1 := Lib.hid (show Blk w1 w.heap.size 2 64 (I fun _ => 0) from (Blk.new _ _ _ _).below HB1.out (by simp))
    have HB1 := Lib.hid (((Below.refl w.heap.size w).alloc (by omega) _).trans (HB1.out.mono (by simp)))
    rw [g]
    go_wp2_with (first | (refine wpList_build0_blk rfl 64 rfl built2 ?_) | (refine wpList_store_blk rfl 64 _ _ rfl (R1.out) rfl rfl sz2 (fun _ _ => rfl) ?_) | fail)
    exact post_blk_tmp rfl (R1.out.setRow _) rfl Try.underlying64 sz2 rfl ⟨rfl, below_setRow HB1.out (by (focus (first | omega | (simp; done) | (simp; omega)))) _⟩
  · have HV := Lib.hid (show meanV n x = fracV (allF x n).toNat (6 : Int).toNat by unfold meanV; rw [g]; rfl)
    obtain ⟨n1, n4⟩ := pool_le g
    have HS := Lib.hid (pool_small g)
    rw [HV.out]
    go_enter Try.func80, Try.ntmps80
    go_wp2_with (first | (refine wpList_alloc_blk rfl 64 rfl zero2 ?_) | fail)
    go_at_call 139
    refine (l2Pool_any o n c x hn _ (H.out.alloc _)).mono ?_
    rintro e w1 ⟨rfl, hb1⟩
    have HB1 := Lib.hid hb1; clear hb1
    have R1 := Lib.hid (show Blk w1 w.heap.size 2 64 (I fun _ => 0) from (Blk.new _ _ _ _).below HB1.out (by simp))
    have HB1 := Lib.hid (((Below.refl w.heap.size w).alloc (by omega) _).trans (HB1.out.mono (by simp)))
    rw [g]
    clear g
    go_wp2
    go_loopw [4, 5] (fun s i wr => ∃ k : Nat, k ≤ n ∧ i = .int .i64 k ∧ s = .int .i64 (allF x k) ∧ Blk wr w.heap.size 2 64 (I fun _ => 0) ∧ Below w.heap.size w wr) (fun s i _ => n - (intOf i).toNat)
    case atStart => exact ⟨0, by omega, rfl, rfl, R1.out, HB1.out⟩
    case round =>
      obtain ⟨k, hk, rfl, rfl, hR, hb⟩ := hrel
      have R2 := Lib.hid hR; have HB2 := Lib.hid hb
      clear hR hb R1 HB1
      obtain ⟨e1, e2⟩ := allF_bd HS.out k hk
      by_cases hlt : k < n
      · have d0 : decide ((k : Int) < (n : Int)) = true := by simp; omega
        obtain ⟨wo, rfl⟩ : ∃ wo : World, wo = wr := ⟨_, rfl⟩
        go_wp2
        go_loopw [4, 6] (fun s j wr => ∃ m : Nat, m ≤ 6 ∧ j = .int .i64 m ∧ s = .int .i64 (allF x k + sumF (x k) m) ∧ Blk wr w.heap.size 2 64 (I fun _ => 0) ∧ Below w.heap.size w wr) (fun s j _ => 6 - (intOf j).toNat)
        case atStart => exact ⟨0, by omega, rfl, by simp [sumF], R2.out, HB2.out⟩
        case round =>
          obtain ⟨m, hm, rfl, rfl, hR, hb⟩ := hrel
          clear R2 HB2
          by_cases hlm : m < 6
          · obtain ⟨a, rfl, hd⟩ := dice6 (H.out.below hb) hlt
            have c0 : wr.cell? ((a.add (k * 6)).add m) = some (.int .i64 (x k m)) := (hd k hlt).2 m hlm
            obtain ⟨e3, e4⟩ := sumF_bd (f := x k) (m := 30) m (fun j hj => HS.out k hlt j (by omega))
            obtain ⟨e5, e6⟩ := HS.out k hlt m hlm
            have HA := Lib.hid (show allF x k + sumF (x k) m + x k m = allF x k + sumF (x k) (m + 1) by simp only [sumF]; omega)
            have R3 := Lib.hid hR; have HB3 := Lib.hid hb
            clear hR hb hd
            go_wp2
            go_roundw
            case rel => exact ⟨m + 1, by omega, by go_num, by rw [HA.out], R3.out, HB3.out⟩
            case measure => simp [intOf]; omega
          · obtain rfl : m = 6 := by omega
            have HA := Lib.hid (show allF x k + sumF (x k) 6 = allF x (k + 1) by simp only [allF, sumF, dieSum])
            have R3 := Lib.hid hR; have HB3 := Lib.hid hb
            clear hR hb
            go_wp2
            go_roundw
            case rel => exact ⟨k + 1, by omega, by go_num, by rw [HA.out], R3.out, HB3.out⟩
            case measure => simp [intOf]; omega
      · have d0 : decide ((k : Int) < (n : Int)) = false := by simp; omega
        have HE := Lib.hid (show k = n by omega)
        have e3 : allF x k ≤ 1000000000 := by omega
        go_wp2_with fail
        go_at_call 155
        refine (l2Cut_int (allF x k) 6 e1 e3 (by omega) (by omega) _).mono ?_
        rintro e w3 ⟨rfl, hb3⟩
        have R3 := Lib.hid (R2.out.below hb3 R2.out.lt)
        have HB3 := Lib.hid (HB2.out.trans (hb3.mono HB2.out.size)); clear hb3
        go_wp2_with (first | (refine wpList_store_blk rfl 64 _ _ rfl (R3.out) rfl rfl sz2 (fun _ _ => rfl) ?_) | fail)
        exact post_blk_tmp rfl (R3.out.setRow _) rfl Try.underlying64 sz2 rfl ⟨by rw [HE.out]; rfl, below_setRow HB3.out (by (focus (first | omega | (simp; done) | (simp; omega)))) _⟩

theorem iMeanOf_any (o : Option Addr) (n c : Nat) (x : Nat → Nat → Int) (hn : n ≤ 1048576) (w : World) (h : PoolAt w o n x) : Calls Try.prog 81 #[poolV o n c] w fun e w' => e = .returned (.tuple #[.agg (row 2 (I (meanV n x))), .bool (poolB n x)]) ∧ Below w.heap.size w w' := by
  have H := Lib.hid h; clear h
  cases g : poolB n x
  · have HV := Lib.hid (show meanV n x = fun _ => 0 by unfold meanV; rw [g]; rfl)
    rw [HV.out]
    go_enter Try.func81, Try.ntmps81
    go_wp2_with (first | (refine wpList_alloc_blk rfl 64 rfl zero2 ?_) | fail)
    go_at_call 56
    refine (isPool_any o n c x hn _ (H.out.alloc _)).mono ?_
    rintro e w1 ⟨rfl, hb1⟩
    have HB1 := Lib.hid hb1; clear hb1
    have R1 := Lib.hid (show Blk w1 w.heap.size 2 64 (I fun _ => 0) from (Blk.new _ _ _ _).below HB1.out (by simp))
    have HB1 := Lib.hid (((Below.refl w.heap.size w).alloc (by omega) _).trans (HB1.out.mono (by simp)))
    rw [g]
    go_wp2_with (first | (refine wpList_build0_blk rfl 64 rfl built2 ?_) | (refine wpList_store_blk rfl 64 _ _ rfl (R1.out) rfl rfl sz2 (fun _ _ => rfl) ?_) | fail)
    exact post_blk_tmp rfl (R1.out.setRow _) rfl Try.underlying64 sz2 rfl ⟨rfl, below_setRow HB1.out (by (focus (first | omega | (simp; done) | (simp; omega)))) _⟩
  · have HV := Lib.hid (show meanV n x = fracV (allF x n).toNat (6 : Int).toNat by unfold meanV; rw [g]; rfl)
    obtain ⟨n1, n4⟩ := pool_le g
    have HS := Lib.hid (pool_small g)
    rw [HV.out]
    go_enter Try.func81, Try.ntmps81
    go_wp2_with (first | (refine wpList_alloc_blk rfl 64 rfl zero2 ?_) | fail)
    go_at_call 56
    refine (isPool_any o n c x hn _ (H.out.alloc _)).mono ?_
    rintro e w1 ⟨rfl, hb1⟩
    have HB1 := Lib.hid hb1; clear hb1
    have R1 := Lib.hid (show Blk w1 w.heap.size 2 64 (I fun _ => 0) from (Blk.new _ _ _ _).below HB1.out (by simp))
    have HB1 := Lib.hid (((Below.refl w.heap.size w).alloc (by omega) _).trans (HB1.out.mono (by simp)))
    rw [g]
    clear g
    go_wp2
    go_loopw [4, 13] (fun s i wr => ∃ k : Nat, k ≤ n ∧ i = .int .i64 k ∧ s = .int .i64 (allF x k) ∧ Blk wr w.heap.size 2 64 (I fun _ => 0) ∧ Below w.heap.size w wr) (fun s i _ => n - (intOf i).toNat)
    case atStart => exact ⟨0, by omega, rfl, rfl, R1.out, HB1.out⟩
    case round =>
      obtain ⟨k, hk, rfl, rfl, hR, hb⟩ := hrel
      have R2 := Lib.hid hR; have HB2 := Lib.hid hb
      clear hR hb R1 HB1
      obtain ⟨e1, e2⟩ := allF_bd HS.out k hk
      by_cases hlt : k < n
      · obtain ⟨a, rfl, hd⟩ := dice6 (H.out.below HB2.out) hlt
        have HC := Lib.hid (hd k hlt).2
        obtain ⟨e3, e4⟩ := dieSum_bd HS.out k hlt
        have HD := Lib.hid (HS.out k hlt)
        clear hd
        go_wp2_with (first | ((with_reducible apply wpList_load_cells); (case hw => rfl); (case ho => rfl); (case hx => rfl); (case hc => with_reducible exact HC.out); (case ha => exact Try.isAgg22); (case hi => exact sz6)) | (refine wpList_alloc_blk rfl 22 rfl zero6 ?_) | (((with_reducible apply wpList_store_new); (case hw => rfl); (case ho => rfl); (case hx => rfl); (case hy => rfl); (case hg => rfl); (case hi => exact sz6); (case h1 => exact fun _ _ => rfl))) | fail)
        go_at_call 156
        refine (total_any _ 6 22 (x k) 30 (by omega) (by omega) HD.out _ (Blk.new _ _ _ _)).mono ?_
        rintro e w' ⟨rfl, rfl⟩
        have e5 : 0 ≤ sumF (x k) 6 := e3
        have e6 : sumF (x k) 6 ≤ 180 := e4
        have HA := Lib.hid (show allF x k + sumF (x k) 6 = allF x (k + 1) by simp only [allF, sumF, dieSum])
        go_wp2
        go_roundw
        case rel => exact ⟨k + 1, by omega, by go_num, by rw [HA.out], R2.out.alloc _, HB2.out.alloc HB2.out.size _⟩
        case measure => simp [intOf]; omega
      · have HE := Lib.hid (show k = n by omega)
        have e3 : allF x k ≤ 1000000000 := by omega
        go_wp2_with fail
        go_at_call 157
        refine (fraction_int (allF x k) 6 e1 e3 (by omega) (by omega) _).mono ?_
        rintro e w3 ⟨rfl, hb3⟩
        have R3 := Lib.hid (R2.out.below hb3 R2.out.lt)
        have HB3 := Lib.hid (HB2.out.trans (hb3.mono HB2.out.size)); clear hb3
        go_wp2_with (first | (refine wpList_store_blk rfl 64 _ _ rfl (R3.out) rfl rfl sz2 (fun _ _ => rfl) ?_) | fail)
        exact post_blk_tmp rfl (R3.out.setRow _) rfl Try.underlying64 sz2 rfl ⟨by rw [HE.out]; rfl, below_setRow HB3.out (by (focus (first | omega | (simp; done) | (simp; omega)))) _⟩
end Go.Proofs.Ytmhlfpcndgoemaa
