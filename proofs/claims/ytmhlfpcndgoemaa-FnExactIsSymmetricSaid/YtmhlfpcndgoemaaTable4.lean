/- Contracts of functions of this program, used by the laws of this seat. No condition beyond what each theorem states. -/
import Derived.Test.YtmhlfpcndgoemaaTable3
set_option linter.unusedVariables false
set_option linter.unusedSimpArgs false
set_option linter.unusedSectionVars false
namespace Go.Proofs.Ytmhlfpcndgoemaa
open Go.RowKit
noncomputable def tableV (n : Nat) (x : Nat → Nat → Int) : Nat → Int := if poolB n x then tabF x n else fun _ => 0
theorem sSumTable_any (o : Option Addr) (n c : Nat) (x : Nat → Nat → Int) (hn : n ≤ 1048576) (w : World) (h : PoolAt w o n x) : Calls Try.prog 75 #[poolV o n c] w fun e w' => e = .returned (.tuple #[.agg (row 121 (I (tableV n x))), .bool (poolB n x)]) ∧ Below w.heap.size w w' := by
  have H := Lib.hid h; clear h
  cases g : poolB n x
  · have HV := Lib.hid (show tableV n x = fun _ => 0 by unfold tableV; rw [g]; rfl)
    rw [HV.out]
    go_enter Try.func75, Try.ntmps75
    go_wp2_with (first | (refine wpList_alloc_blk rfl 58 rfl zero121 ?_) | fail)
    go_at_call 139
    refine (l2Pool_any o n c x hn _ (H.out.alloc _)).mono ?_
    rintro e w1 ⟨rfl, hb1⟩
    have HB1 := Lib.hid hb1; clear hb1
    have R1 := Lib.hid (show Blk w1 w.heap.size 121 58 (I fun _ => 0) from (Blk.new _ _ _ _).below HB1.out (by simp))
    have HP1 := Lib.hid ((H.out.alloc _).below HB1.out)
    have HB1 := Lib.hid (((Below.refl w.heap.size w).alloc (by omega) _).trans (HB1.out.mono (by simp)))
    rw [g]
    go_wp2_with (first | (refine wpList_build0_blk rfl 58 rfl built121 ?_) | (refine wpList_store_blk rfl 58 _ _ rfl (R1.out) rfl rfl sz121 (fun _ _ => rfl) ?_) | fail)
    exact post_blk_tmp rfl (R1.out.setRow _) rfl Try.underlying58 sz121 rfl ⟨rfl, below_setRow HB1.out (by (focus (first | omega | (simp; done) | (simp; omega)))) _⟩
  · have HV := Lib.hid (show tableV n x = tabF x n by unfold tableV; rw [g]; rfl)
    have G := Lib.hid g
    rw [HV.out]
    go_enter Try.func75, Try.ntmps75
    go_wp2_with (first | (refine wpList_alloc_blk rfl 58 rfl zero121 ?_) | fail)
    go_at_call 139
    refine (l2Pool_any o n c x hn _ (H.out.alloc _)).mono ?_
    rintro e w1 ⟨rfl, hb1⟩
    have HB1 := Lib.hid hb1; clear hb1
    have R1 := Lib.hid (show Blk w1 w.heap.size 121 58 (I fun _ => 0) from (Blk.new _ _ _ _).below HB1.out (by simp))
    have HP1 := Lib.hid ((H.out.alloc _).below HB1.out)
    have HB1 := Lib.hid (((Below.refl w.heap.size w).alloc (by omega) _).trans (HB1.out.mono (by simp)))
    rw [g]
    clear g
    go_wp2_with fail
    go_at_call 151
    refine (l2Table_any o n c x hn G.out _ HP1.out).mono ?_
    rintro e w3 ⟨rfl, hb3⟩
    have R3 := Lib.hid (R1.out.below hb3 R1.out.lt)
    have HB3 := Lib.hid (HB1.out.trans (hb3.mono HB1.out.size)); clear hb3
    go_wp2_with (first | (refine wpList_store_blk rfl 58 _ _ rfl (R3.out) rfl rfl sz121 (fun _ _ => rfl) ?_) | fail)
    exact post_blk_tmp rfl (R3.out.setRow _) rfl Try.underlying58 sz121 rfl ⟨rfl, below_setRow HB3.out (by (focus (first | omega | (simp; done) | (simp; omega)))) _⟩
theorem iSumTable_any (o : Option Addr) (n c : Nat) (x : Nat → Nat → Int) (hn : n ≤ 1048576) (w : World) (h : PoolAt w o n x) : Calls Try.prog 76 #[poolV o n c] w fun e w' => e = .returned (.tuple #[.agg (row 121 (I (tableV n x))), .bool (poolB n x)]) ∧ Below w.heap.size w w' := by
  have H := Lib.hid h; clear h
  cases g : poolB n x
  · have HV := Lib.hid (show tableV n x = fun _ => 0 by unfold tableV; rw [g]; rfl)
    rw [HV.out]
    go_enter Try.func76, Try.ntmps76
    go_wp2_with (first | (refine wpList_alloc_blk rfl 58 rfl zero121 ?_) | fail)
    go_at_call 56
    refine (isPool_any o n c x hn _ (H.out.alloc _)).mono ?_
    rintro e w1 ⟨rfl, hb1⟩
    have HB1 := Lib.hid hb1; clear hb1
    have R1 := Lib.hid (show Blk w1 w.heap.size 121 58 (I fun _ => 0) from (Blk.new _ _ _ _).below HB1.out (by simp))
    have HP1 := Lib.hid ((H.out.alloc _).below HB1.out)
    have HB1 := Lib.hid (((Below.refl w.heap.size w).alloc (by omega) _).trans (HB1.out.mono (by simp)))
    rw [g]
    go_wp2_with (first | (refine wpList_build0_blk rfl 58 rfl built121 ?_) | (refine wpList_store_blk rfl 58 _ _ rfl (R1.out) rfl rfl sz121 (fun _ _ => rfl) ?_) | fail)
    exact post_blk_tmp rfl (R1.out.setRow _) rfl Try.underlying58 sz121 rfl ⟨rfl, below_setRow HB1.out (by (focus (first | omega | (simp; done) | (simp; omega)))) _⟩
  · have HV := Lib.hid (show tableV n x = tabF x n by unfold tableV; rw [g]; rfl)
    have G := Lib.hid g
    rw [HV.out]
    go_enter Try.func76, Try.ntmps76
    go_wp2_with (first | (refine wpList_alloc_blk rfl 58 rfl zero121 ?_) | fail)
    go_at_call 56
    refine (isPool_any o n c x hn _ (H.out.alloc _)).mono ?_
    rintro e w1 ⟨rfl, hb1⟩
    have HB1 := Lib.hid hb1; clear hb1
    have R1 := Lib.hid (show Blk w1 w.heap.size 121 58 (I fun _ => 0) from (Blk.new _ _ _ _).below HB1.out (by simp))
    have HP1 := Lib.hid ((H.out.alloc _).below HB1.out)
    have HB1 := Lib.hid (((Below.refl w.heap.size w).alloc (by omega) _).trans (HB1.out.mono (by simp)))
    rw [g]
    clear g
    go_wp2_with fail
    go_at_call 152
    refine (sums_any o n c x hn G.out _ HP1.out).mono ?_
    rintro e w3 ⟨rfl, hb3⟩
    have R3 := Lib.hid (R1.out.below hb3 R1.out.lt)
    have HB3 := Lib.hid (HB1.out.trans (hb3.mono HB1.out.size)); clear hb3
    go_wp2_with (first | (refine wpList_store_blk rfl 58 _ _ rfl (R3.out) rfl rfl sz121 (fun _ _ => rfl) ?_) | fail)
    exact post_blk_tmp rfl (R3.out.setRow _) rfl Try.underlying58 sz121 rfl ⟨rfl, below_setRow HB3.out (by (focus (first | omega | (simp; done) | (simp; omega)))) _⟩
end Go.Proofs.Ytmhlfpcndgoemaa
