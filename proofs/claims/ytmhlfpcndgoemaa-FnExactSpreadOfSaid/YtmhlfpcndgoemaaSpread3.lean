/- Contracts of functions of this program, used by the laws of this seat. No condition beyond what each theorem states. -/
import Derived.Test.YtmhlfpcndgoemaaSpread
set_option linter.unusedVariables false
set_option linter.unusedSimpArgs false
set_option linter.unusedSectionVars false
namespace Go.Proofs.Ytmhlfpcndgoemaa
open Go.RowKit
theorem iSpreadOf_any (o : Option Addr) (n c : Nat) (x : Nat → Nat → Int) (hn : n ≤ 1048576) (w : World) (h : PoolAt w o n x) : Calls Try.prog 84 #[poolV o n c] w fun e w' => e = .returned (.tuple #[.agg (row 2 (I (spreadV n x))), .bool (poolB n x)]) ∧ Below w.heap.size w w' := by
  have H := Lib.hid h; clear h
  cases g : poolB n x
  · have HV := Lib.hid (show spreadV n x = fun _ => 0 by unfold spreadV; rw [g]; rfl)
    rw [HV.out]
    go_enter Try.func84, Try.ntmps84
    go_wp2_with (first | (refine wpList_alloc_blk rfl 64 rfl zero2 ?_) | fail)
    go_at_call 56
    refine (isPool_any o n c x hn _ (H.out.alloc _)).mono ?_
    rintro e w1 ⟨rfl, hb1⟩
    have HB1 := Lib.hid hb1; clear hb1
    have R1 := Lib.hid (show Blk w1 w.heap.size 2 64 (I fun _ => 0) from (Blk.new _ _ _ _).below HB1.out (by simp))
    have HB1 := Lib.hid (((Below.refl w.heap.size w).alloc (by omega) _).trans (HB1.out.mono (by simp)))
    rw [g]
    go_wp2_with (first | (refine wpList_build0_blk rfl 64 rfl built2 ?_) | (refine wpList_store_blk rfl 64 _ _ rfl (R1.out) rfl rfl sz2 (fun _ _ => rfl) ?_) | fail)
    exact post_blk_tmp rfl (R1.out.setRow _) rfl Try.underlying64 sz2 rfl ⟨rfl, below_setRow HB1.out (by (focus (first | omega | (simp; done) | (simp; omega)))) _⟩
  · have HV := Lib.hid (show spreadV n x = fracV (sprF x n).toNat (36 : Int).toNat by unfold spreadV; rw [g]; rfl)
    obtain ⟨n1, n4⟩ := pool_le g
    have HS := Lib.hid (pool_small g)
    rw [HV.out]
    go_enter Try.func84, Try.ntmps84
    go_wp2_with (first | (refine wpList_alloc_blk rfl 64 rfl zero2 ?_) | fail)
    go_at_call 56
    refine (isPool_any o n c x hn _ (H.out.alloc _)).mono ?_
    rintro e w1 ⟨rfl, hb1⟩
    have HB1 := Lib.hid hb1; clear hb1
    have R1 := Lib.hid (show Blk w1 w.heap.size 2 64 (I fun _ => 0) from (Blk.new _ _ _ _).below HB1.out (by simp))
    have HB1 := Lib.hid (((Below.refl w.heap.size w).alloc (by omega) _).trans (HB1.out.mono (by simp)))
    rw [g]
    clear g
    go_wp2
    go_loopw [4, 17] (fun s i wr => ∃ k : Nat, k ≤ n ∧ i = .int .i64 k ∧ s = .int .i64 (sprF x k) ∧ Blk wr w.heap.size 2 64 (I fun _ => 0) ∧ Below w.heap.size w wr) (fun s i _ => n - (intOf i).toNat)
    case atStart => exact ⟨0, by omega, rfl, rfl, R1.out, HB1.out⟩
    case round =>
      obtain ⟨k, hk, rfl, rfl, hR, hb⟩ := hrel
      have R2 := Lib.hid hR; have HB2 := Lib.hid hb
      clear hR hb R1 HB1
      obtain ⟨e1, e2⟩ := sprF_bd HS.out k hk
      by_cases hlt : k < n
      · obtain ⟨a, rfl, hd⟩ := dice6 (H.out.below HB2.out) hlt
        have HC := Lib.hid (hd k hlt).2
        obtain ⟨e3, e4⟩ := dieSum_bd HS.out k hlt
        have HD := Lib.hid (HS.out k hlt)
        clear hd
        go_wp2_with (first | ((with_reducible apply wpList_load_cells); (case hw => rfl); (case ho => rfl); (case hx => rfl); (case hc => with_reducible exact HC.out); (case ha => exact Try.isAgg22); (case hi => exact sz6)) | (refine wpList_alloc_blk rfl 22 rfl zero6 ?_) | (((with_reducible apply wpList_store_new); (case hw => rfl); (case ho => rfl); (case hx => rfl); (case hy => rfl); (case hg => rfl); (case hi => exact sz6); (case h1 => exact fun _ _ => rfl))) | fail)
        go_at_call 156
        refine (total_any _ 6 22 (x k) 30 (by omega) (by omega) HD.out _ (Blk.new _ _ _ _)).mono ?_
        rintro e w' ⟨rfl, rfl⟩
        have HE := Lib.hid (show sumF (x k) 6 = dieSum x k from rfl)
        rw [HE.out]
        obtain ⟨wo, hwo⟩ : ∃ wo : World, wo = wr.alloc (.cells (row 6 (I (x k))) 22) := ⟨_, rfl⟩
        have R3 := Lib.hid (show Blk wo w.heap.size 2 64 (I fun _ => 0) from hwo ▸ R2.out.alloc _)
        have HB3 := Lib.hid (show Below w.heap.size w wo from hwo ▸ HB2.out.alloc HB2.out.size _)
        have A3 := Lib.hid (show Blk wo wr.heap.size 6 22 (I (x k)) from hwo ▸ Blk.new _ _ _ _)
        rw [← hwo]
        clear hwo HC
        go_wp2_with (first | ((with_reducible apply wpList_load_blk); (case hw => rfl); (case ho => rfl); (case hx => rfl); (case hb => with_reducible exact A3.out); (case hu => exact Try.underlying22); (case hi => exact sz6)) | fail)
        go_loopw [8, 24] (fun q j wr => ∃ m : Nat, m ≤ 6 ∧ j = .int .i64 m ∧ q = .int .i64 (sqF x k m) ∧ wo = wr) (fun q j _ => 6 - (intOf j).toNat)
        case atStart => exact ⟨0, by omega, rfl, rfl, rfl⟩
        case round =>
          obtain ⟨m, hm, rfl, rfl, rfl⟩ := hrel
          by_cases hlm : m < 6
          · obtain ⟨e5, e6⟩ := HS.out k hlt m hlm
            obtain ⟨e7, e8⟩ := sqF_bd HS.out k hlt m hm
            obtain ⟨e9, e10⟩ := mul_bd (HS.out k hlt m hlm)
            have HQ := Lib.hid (show sqF x k m + x k m * x k m = sqF x k (m + 1) by simp only [sqF, sumF])
            go_wp2_with (first | (((with_reducible apply wpList_index6); (case hw => rfl); (case ho => rfl); (case hx => rfl); (case hy => rfl); (case hk => exact hlm))) | fail)
            go_roundw
            case rel => exact ⟨m + 1, by omega, by go_num, by rw [HQ.out], trivial⟩
            case measure => simp [intOf]; omega
          · obtain rfl : m = 6 := by omega
            obtain ⟨e7, e8⟩ := sqF_bd HS.out k hlt 6 (by omega)
            obtain ⟨e9, e10⟩ := mul_bd (dieSum_bd HS.out k hlt)
            have HA := Lib.hid (show sprF x k + (6 * sqF x k 6 - dieSum x k * dieSum x k) = sprF x (k + 1) by simp only [sprF, sumF, spreadD])
            go_wp2
            go_roundw
            case rel => exact ⟨k + 1, by omega, by go_num, by rw [HA.out], R3.out, HB3.out⟩
            case measure => simp [intOf]; omega
      · have HE := Lib.hid (show k = n by omega)
        have e3 : sprF x k ≤ 1000000000 := by omega
        go_wp2_with fail
        go_at_call 157
        refine (fraction_int (sprF x k) 36 e1 e3 (by omega) (by omega) _).mono ?_
        rintro e w3 ⟨rfl, hb3⟩
        have R3 := Lib.hid (R2.out.below hb3 R2.out.lt)
        have HB3 := Lib.hid (HB2.out.trans (hb3.mono HB2.out.size)); clear hb3
        go_wp2_with (first | (refine wpList_store_blk rfl 64 _ _ rfl (R3.out) rfl rfl sz2 (fun _ _ => rfl) ?_) | fail)
        exact post_blk_tmp rfl (R3.out.setRow _) rfl Try.underlying64 sz2 rfl ⟨by rw [HE.out]; rfl, below_setRow HB3.out (by (focus (first | omega | (simp; done) | (simp; omega)))) _⟩
end Go.Proofs.Ytmhlfpcndgoemaa
