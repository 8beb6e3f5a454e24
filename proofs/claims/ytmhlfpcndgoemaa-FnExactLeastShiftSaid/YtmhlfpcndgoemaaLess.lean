/- Contracts of functions of this program, used by the laws of this seat. No condition beyond what each theorem states. -/
import Derived.Test.YtmhlfpcndgoemaaBeat4
import Derived.Test.YtmhlfpcndgoemaaLex
import Derived.Test.YtmhlfpcndgoemaaPair2
set_option linter.unusedVariables false
set_option linter.unusedSimpArgs false
set_option linter.unusedSectionVars false
namespace Go.Proofs.Ytmhlfpcndgoemaa
open Go.RowKit
noncomputable def lessV (a b : Nat → Int) : Bool := bothD a b && decide (lexI a b 6 0 < 0)

theorem sLessDie_any (a b : Nat → Int) (w : World) : Calls Try.prog 61 #[dieV a, dieV b] w fun x w' => x = .returned (.tuple #[.bool (lessV a b), .bool (bothD a b)]) ∧ Below w.heap.size w w' := by
  unfold lessV
  cases ha : dieB a
  · have hb : bothD a b = false := by simp [bothD, ha]
    rw [hb]
    go_enter Try.func61, Try.ntmps61
    go_wp2_with (first | (refine wpList_load_blk rfl 22 _ rfl ((Blk.new _ _ _ _).alloc _) rfl Try.underlying22 sz6 ?_) | fail)
    go_at_call 129
    refine (l2Die_any a _).mono ?_
    rintro e w1 ⟨rfl, hb1⟩
    have HB1 := Lib.hid hb1; clear hb1
    have A1 := Lib.hid (show Blk w1 w.heap.size 6 22 (I a) from ((Blk.new _ _ _ _).alloc _).below HB1.out (by simp; omega))
    have B1 := Lib.hid (show Blk w1 (w.heap.size + 1) 6 22 (I b) from (Blk.newS (by simp)).below HB1.out (by simp))
    have HB1 := Lib.hid ((((Below.refl w.heap.size w).alloc (by omega) _).alloc (by simp) _).trans (HB1.out.mono (by simp; omega)))
    rw [ha]
    go_wp2
    go_ret2
    exact ⟨rfl, HB1.out⟩
  · cases hb : dieB b
    · have hb2 : bothD a b = false := by simp [bothD, hb]
      rw [hb2]
      go_enter Try.func61, Try.ntmps61
      go_wp2_with (first | (refine wpList_load_blk rfl 22 _ rfl ((Blk.new _ _ _ _).alloc _) rfl Try.underlying22 sz6 ?_) | fail)
      go_at_call 129
      refine (l2Die_any a _).mono ?_
      rintro e w1 ⟨rfl, hb1⟩
      have HB1 := Lib.hid hb1; clear hb1
      have A1 := Lib.hid (show Blk w1 w.heap.size 6 22 (I a) from ((Blk.new _ _ _ _).alloc _).below HB1.out (by simp; omega))
      have B1 := Lib.hid (show Blk w1 (w.heap.size + 1) 6 22 (I b) from (Blk.newS (by simp)).below HB1.out (by simp))
      have HB1 := Lib.hid ((((Below.refl w.heap.size w).alloc (by omega) _).alloc (by simp) _).trans (HB1.out.mono (by simp; omega)))
      rw [ha]
      go_wp2_with (first | (refine wpList_load_blk rfl 22 _ rfl (B1.out) rfl Try.underlying22 sz6 ?_) | fail)
      go_at_call 129
      refine (l2Die_any b _).mono ?_
      rintro e w2 ⟨rfl, hb2⟩
      have A2 := Lib.hid (A1.out.below hb2 A1.out.lt)
      have B2 := Lib.hid (B1.out.below hb2 B1.out.lt)
      have HB2 := Lib.hid (HB1.out.trans (hb2.mono HB1.out.size)); clear hb2
      rw [hb]
      go_wp2
      go_ret2
      exact ⟨rfl, HB2.out⟩
    · have hb2 : bothD a b = true := by simp [bothD, ha, hb]
      rw [hb2]
      go_enter Try.func61, Try.ntmps61
      go_wp2_with (first | (refine wpList_load_blk rfl 22 _ rfl ((Blk.new _ _ _ _).alloc _) rfl Try.underlying22 sz6 ?_) | fail)
      go_at_call 129
      refine (l2Die_any a _).mono ?_
      rintro e w1 ⟨rfl, hb1⟩
      have HB1 := Lib.hid hb1; clear hb1
      have A1 := Lib.hid (show Blk w1 w.heap.size 6 22 (I a) from ((Blk.new _ _ _ _).alloc _).below HB1.out (by simp; omega))
      have B1 := Lib.hid (show Blk w1 (w.heap.size + 1) 6 22 (I b) from (Blk.newS (by simp)).below HB1.out (by simp))
      have HB1 := Lib.hid ((((Below.refl w.heap.size w).alloc (by omega) _).alloc (by simp) _).trans (HB1.out.mono (by simp; omega)))
      rw [ha]
      go_wp2_with (first | (refine wpList_load_blk rfl 22 _ rfl (B1.out) rfl Try.underlying22 sz6 ?_) | fail)
      go_at_call 129
      refine (l2Die_any b _).mono ?_
      rintro e w2 ⟨rfl, hb2⟩
      have A2 := Lib.hid (A1.out.below hb2 A1.out.lt)
      have B2 := Lib.hid (B1.out.below hb2 B1.out.lt)
      have HB2 := Lib.hid (HB1.out.trans (hb2.mono HB1.out.size)); clear hb2
      rw [hb]
      clear ha hb hb2
      go_wp2_with (first | (refine wpList_load_blk rfl 22 _ rfl (A2.out) rfl Try.underlying22 sz6 ?_) | (refine wpList_load_blk rfl 22 _ rfl (B2.out) rfl Try.underlying22 sz6 ?_) | fail)
      go_at_call 143
      refine (l2Before_any a b _).mono ?_
      rintro e w3 ⟨rfl, hb3⟩
      have HB3 := Lib.hid (HB2.out.trans (hb3.mono HB2.out.size)); clear hb3
      go_wp2
      go_ret2
      exact ⟨by simp, HB3.out⟩

theorem iLessDie_any (a b : Nat → Int) (w : World) : Calls Try.prog 62 #[dieV a, dieV b] w fun x w' => x = .returned (.tuple #[.bool (lessV a b), .bool (bothD a b)]) ∧ Below w.heap.size w w' := by
  unfold lessV
  cases ha : dieB a
  · have hb : bothD a b = false := by simp [bothD, ha]
    rw [hb]
    go_enter Try.func62, Try.ntmps62
    go_wp2_with (first | (refine wpList_load_blk rfl 22 _ rfl ((Blk.new _ _ _ _).alloc _) rfl Try.underlying22 sz6 ?_) | fail)
    go_at_call 40
    refine (isDie_any a _).mono ?_
    rintro e w1 ⟨rfl, hb1⟩
    have HB1 := Lib.hid hb1; clear hb1
    have A1 := Lib.hid (show Blk w1 w.heap.size 6 22 (I a) from ((Blk.new _ _ _ _).alloc _).below HB1.out (by simp; omega))
    have B1 := Lib.hid (show Blk w1 (w.heap.size + 1) 6 22 (I b) from (Blk.newS (by simp)).below HB1.out (by simp))
    have HB1 := Lib.hid ((((Below.refl w.heap.size w).alloc (by omega) _).alloc (by simp) _).trans (HB1.out.mono (by simp; omega)))
    rw [ha]
    go_wp2
    go_ret2
    exact ⟨rfl, HB1.out⟩
  · cases hb : dieB b
    · have hb2 : bothD a b = false := by simp [bothD, hb]
      rw [hb2]
      go_enter Try.func62, Try.ntmps62
      go_wp2_with (first | (refine wpList_load_blk rfl 22 _ rfl ((Blk.new _ _ _ _).alloc _) rfl Try.underlying22 sz6 ?_) | fail)
      go_at_call 40
      refine (isDie_any a _).mono ?_
      rintro e w1 ⟨rfl, hb1⟩
      have HB1 := Lib.hid hb1; clear hb1
      have A1 := Lib.hid (show Blk w1 w.heap.size 6 22 (I a) from ((Blk.new _ _ _ _).alloc _).below HB1.out (by simp; omega))
      have B1 := Lib.hid (show Blk w1 (w.heap.size + 1) 6 22 (I b) from (Blk.newS (by simp)).below HB1.out (by simp))
      have HB1 := Lib.hid ((((Below.refl w.heap.size w).alloc (by omega) _).alloc (by simp) _).trans (HB1.out.mono (by simp; omega)))
      rw [ha]
      go_wp2_with (first | (refine wpList_load_blk rfl 22 _ rfl (B1.out) rfl Try.underlying22 sz6 ?_) | fail)
      go_at_call 40
      refine (isDie_any b _).mono ?_
      rintro e w2 ⟨rfl, hb2⟩
      have A2 := Lib.hid (A1.out.below hb2 A1.out.lt)
      have B2 := Lib.hid (B1.out.below hb2 B1.out.lt)
      have HB2 := Lib.hid (HB1.out.trans (hb2.mono HB1.out.size)); clear hb2
      rw [hb]
      go_wp2
      go_ret2
      exact ⟨rfl, HB2.out⟩
    · have hb2 : bothD a b = true := by simp [bothD, ha, hb]
      rw [hb2]
      go_enter Try.func62, Try.ntmps62
      go_wp2_with (first | (refine wpList_load_blk rfl 22 _ rfl ((Blk.new _ _ _ _).alloc _) rfl Try.underlying22 sz6 ?_) | fail)
      go_at_call 40
      refine (isDie_any a _).mono ?_
      rintro e w1 ⟨rfl, hb1⟩
      have HB1 := Lib.hid hb1; clear hb1
      have A1 := Lib.hid (show Blk w1 w.heap.size 6 22 (I a) from ((Blk.new _ _ _ _).alloc _).below HB1.out (by simp; omega))
      have B1 := Lib.hid (show Blk w1 (w.heap.size + 1) 6 22 (I b) from (Blk.newS (by simp)).below HB1.out (by simp))
      have HB1 := Lib.hid ((((Below.refl w.heap.size w).alloc (by omega) _).alloc (by simp) _).trans (HB1.out.mono (by simp; omega)))
      rw [ha]
      go_wp2_with (first | (refine wpList_load_blk rfl 22 _ rfl (B1.out) rfl Try.underlying22 sz6 ?_) | fail)
      go_at_call 40
      refine (isDie_any b _).mono ?_
      rintro e w2 ⟨rfl, hb2⟩
      have A2 := Lib.hid (A1.out.below hb2 A1.out.lt)
      have B2 := Lib.hid (B1.out.below hb2 B1.out.lt)
      have HB2 := Lib.hid (HB1.out.trans (hb2.mono HB1.out.size)); clear hb2
      rw [hb]
      clear ha hb hb2
      go_wp2_with (first | (refine wpList_load_blk rfl 22 _ rfl (A2.out) rfl Try.underlying22 sz6 ?_) | (refine wpList_load_blk rfl 22 _ rfl (B2.out) rfl Try.underlying22 sz6 ?_) | fail)
      go_at_call 142
      refine (compareDice_any a b _).mono ?_
      rintro e w3 ⟨rfl, hb3⟩
      have HB3 := Lib.hid (HB2.out.trans (hb3.mono HB2.out.size)); clear hb3
      go_wp2
      go_ret2
      exact ⟨by simp, HB3.out⟩

end Go.Proofs.Ytmhlfpcndgoemaa
