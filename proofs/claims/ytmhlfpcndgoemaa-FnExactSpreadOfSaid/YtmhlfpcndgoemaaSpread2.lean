/- Contracts of functions of this program, used by the laws of this seat. No condition beyond what each theorem states. -/
import Derived.Test.YtmhlfpcndgoemaaSpread
set_option linter.unusedVariables false
set_option linter.unusedSimpArgs false
set_option linter.unusedSectionVars false
namespace Go.Proofs.Ytmhlfpcndgoemaa
open Go.RowKit
theorem sSpreadOf_any (o : Option Addr) (n c : Nat) (x : Nat → Nat → Int) (hn : n ≤ 1048576) (w : World) (h : PoolAt w o n x) : Calls Try.prog 83 #[poolV o n c] w fun e w' => e = .returned (.tuple #[.agg (row 2 (I (spreadV n x))), .bool (poolB n x)]) ∧ Below w.heap.size w w' := by
  have H := Lib.hid h; clear h
  cases g : poolB n x
  · have HV := Lib.hid (show spreadV n x = fun _ => 0 by unfold spreadV; rw [g]; rfl)
    rw [HV.out]
    go_enter Try.func83, Try.ntmps83
    go_wp2_with (first | (refine wpList_alloc_blk rfl 64 rfl zero2 ?_) | fail)
    go_at_call 139
    refine (l2Pool_any o n c x hn _ (H.out.alloc _)).mono ?_
    rintro e w1 ⟨rfl, hb1⟩
    have HB1 := Lib.hid hb1; clear hb1
    have R1 := Lib.hid (show Blk w1 w.heap.size 2 64 (I fun _ => 0) from (Blk.new _ _ _ _).below HB1.out (by simp))
    have HB1 := Lib.hid (((Below.refl w.heap.size w).alloc (by omega) _).trans (HB1.out.mono (by simp)))
    rw [g]
    go_wp2_with (first | (refine wpList_build0_blk rfl 64 rfl built2 ?_) | (refine wpList_store_blk rfl 64 _ _ rfl (R1.out) rfl rfl sz2 (fun _ _ => rfl) ?_) | fail)
    exact post_blk_tmp rfl (R1.out.setRow _) rfl Try.underlying64 sz2 rfl ⟨rfl, below_setRow HB1.out (by (focus (first | omega | (simp; done) | (simp; omega)))) _⟩
  · have HV := Lib.hid (show spreadV n x = fracV (sprF x n).toNat (36 : Int).toNat by unfold spreadV; rw [g]; rfl)
    obtain ⟨n1, n4⟩ := pool_le g
    have HS := Lib.hid (pool_small g)
    rw [HV.out]
    go_enter Try.func83, Try.ntmps83
    go_wp2_with (first | (refine wpList_alloc_blk rfl 64 rfl zero2 ?_) | fail)
    go_at_call 139
    refine (l2Pool_any o n c x hn _ (H.out.alloc _)).mono ?_
    rintro e w1 ⟨rfl, hb1⟩
    have HB1 := Lib.hid hb1; clear hb1
    have R1 := Lib.hid (show Blk w1 w.heap.size 2 64 (I fun _ => 0) from (Blk.new _ _ _ _).below HB1.out (by simp))
    have HB1 := Lib.hid (((Below.refl w.heap.size w).alloc (by omega) _).trans (HB1.out.mono (by simp)))
    rw [g]
    clear g
    go_wp2
    go_loopw [4, 5] (fun s i wr => ∃ k : Nat, k ≤ n ∧ i = .int .i64 k ∧ s = .int .i64 (sprF x k) ∧ Blk wr w.heap.size 2 64 (I fun _ => 0) ∧ Below w.heap.size w wr) (fun s i _ => n - (intOf i).toNat)
    case atStart => exact ⟨0, by omega, rfl, rfl, R1.out, HB1.out⟩
    case round =>
      obtain ⟨k, hk, rfl, rfl, hR, hb⟩ := hrel
      have R2 := Lib.hid hR; have HB2 := Lib.hid hb
      clear hR hb R1 HB1
      obtain ⟨e1, e2⟩ := sprF_bd HS.out k hk
      by_cases hlt : k < n
      · have d0 : decide ((k : Int) < (n : Int)) = true := by simp; omega
        obtain ⟨wo, rfl⟩ : ∃ wo : World, wo = wr := ⟨_, rfl⟩
        go_wp2
        go_loopw [6, 7, 8] (fun s q j wr => ∃ m : Nat, m ≤ 6 ∧ j = .int .i64 m ∧ s = .int .i64 (sumF (x k) m) ∧ q = .int .i64 (sqF x k m) ∧ Blk wr w.heap.size 2 64 (I fun _ => 0) ∧ Below w.heap.size w wr) (fun s q j _ => 6 - (intOf j).toNat)
        case atStart => exact ⟨0, by omega, rfl, rfl, rfl, R2.out, HB2.out⟩
        case round =>
          obtain ⟨m, hm, rfl, rfl, rfl, hR, hb⟩ := hrel
          clear R2 HB2
          by_cases hlm : m < 6
          · obtain ⟨a, rfl, hd⟩ := dice6 (H.out.below hb) hlt
            have c0 : wr.cell? ((a.add (k * 6)).add m) = some (.int .i64 (x k m)) := (hd k hlt).2 m hlm
            obtain ⟨e3, e4⟩ := sumF_bd (f := x k) (m := 30) m (fun j hj => HS.out k hlt j (by omega))
            obtain ⟨e5, e6⟩ := HS.out k hlt m hlm
            obtain ⟨e7, e8⟩ := sqF_bd HS.out k hlt m hm
            obtain ⟨e9, e10⟩ := mul_bd (HS.out k hlt m hlm)
            have HQ := Lib.hid (show sqF x k m + x k m * x k m = sqF x k (m + 1) by simp only [sqF, sumF])
            have R3 := Lib.hid hR; have HB3 := Lib.hid hb
            clear hR hb hd
            go_wp2
            go_quiet (fail)
            go_wp2
            go_roundw
            case rel => exact ⟨m + 1, by omega, by go_num, rfl, by rw [HQ.out], R3.out.drewN _, below_drewN HB3.out _⟩
            case measure => simp [intOf]; omega
          · obtain rfl : m = 6 := by omega
            obtain ⟨e3, e4⟩ := dieSum_bd HS.out k hlt
            obtain ⟨e7, e8⟩ := sqF_bd HS.out k hlt 6 (by omega)
            obtain ⟨e9, e10⟩ := mul_bd (dieSum_bd HS.out k hlt)
            have HA := Lib.hid (show sprF x k + 6 * sqF x k 6 - dieSum x k * dieSum x k = sprF x (k + 1) by simp only [sprF, sumF, spreadD]; omega)
            have HE := Lib.hid (show sumF (x k) 6 = dieSum x k from rfl)
            have R3 := Lib.hid hR; have HB3 := Lib.hid hb
            clear hR hb
            rw [HE.out]
            go_wp2
            go_roundw
            case rel => exact ⟨k + 1, by omega, by go_num, by rw [HA.out], R3.out, HB3.out⟩
            case measure => simp [intOf]; omega
      · have d0 : decide ((k : Int) < (n : Int)) = false := by simp; omega
        have HE := Lib.hid (show k = n by omega)
        have e3 : sprF x k ≤ 1000000000 := by omega
        go_wp2_with fail
        go_at_call 155
        refine (l2Cut_int (sprF x k) 36 e1 e3 (by omega) (by omega) _).mono ?_
        rintro e w3 ⟨rfl, hb3⟩
        have R3 := Lib.hid (R2.out.below hb3 R2.out.lt)
        have HB3 := Lib.hid (HB2.out.trans (hb3.mono HB2.out.size)); clear hb3
        go_wp2_with (first | (refine wpList_store_blk rfl 64 _ _ rfl (R3.out) rfl rfl sz2 (fun _ _ => rfl) ?_) | fail)
        exact post_blk_tmp rfl (R3.out.setRow _) rfl Try.underlying64 sz2 rfl ⟨by rw [HE.out]; rfl, below_setRow HB3.out (by (focus (first | omega | (simp; done) | (simp; omega)))) _⟩

end Go.Proofs.Ytmhlfpcndgoemaa
