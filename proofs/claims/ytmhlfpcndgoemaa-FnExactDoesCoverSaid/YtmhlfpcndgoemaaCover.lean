/- Contracts of functions of this program, used by the laws of this seat. No condition beyond what each theorem states. -/
import Derived.Test.YtmhlfpcndgoemaaIsDie
set_option linter.unusedVariables false
set_option linter.unusedSimpArgs false
set_option linter.unusedSectionVars false
namespace Go.Proofs.Ytmhlfpcndgoemaa
open Go.RowKit

def covB (a b : Nat → Int) : Bool := allB (fun k => !decide (a k < b k)) 6
noncomputable def bothB (a b : Nat → Int) : Bool := dieB a && dieB b
noncomputable def coverV (a b : Nat → Int) : Bool := dieB a && (dieB b && covB a b)

theorem sCover_any (a b : Nat → Int) (w : World) : Calls Try.prog 41 #[dieV a, dieV b] w fun x w' => x = .returned (.tuple #[.bool (coverV a b), .bool (bothB a b)]) ∧ Below w.heap.size w w' := by
  unfold coverV bothB
  cases ha : dieB a
  · go_enter Try.func41, Try.ntmps41
    go_wp2_with (first | (refine wpList_load_blk rfl 22 _ rfl ((Blk.new _ _ _ _).alloc _) rfl Try.underlying22 sz6 ?_) | fail)
    go_at_call 129
    refine (l2Die_any a _).mono ?_
    rintro e w1 ⟨rfl, hb1⟩
    have HB1 := Lib.hid hb1; clear hb1
    have A1 := Lib.hid (show Blk w1 w.heap.size 6 22 (I a) from ((Blk.new _ _ _ _).alloc _).below HB1.out (by simp; omega))
    have B1 := Lib.hid (show Blk w1 (w.heap.size + 1) 6 22 (I b) from (Blk.newS (by simp)).below HB1.out (by simp))
    have HB1 := Lib.hid ((((Below.refl w.heap.size w).alloc (by omega) _).alloc (by simp) _).trans (HB1.out.mono (by simp; omega)))
    rw [ha]
    go_wp2
    go_ret2
    exact ⟨rfl, HB1.out⟩
  · cases hb : dieB b
    · go_enter Try.func41, Try.ntmps41
      go_wp2_with (first | (refine wpList_load_blk rfl 22 _ rfl ((Blk.new _ _ _ _).alloc _) rfl Try.underlying22 sz6 ?_) | fail)
      go_at_call 129
      refine (l2Die_any a _).mono ?_
      rintro e w1 ⟨rfl, hb1⟩
      have HB1 := Lib.hid hb1; clear hb1
      have A1 := Lib.hid (show Blk w1 w.heap.size 6 22 (I a) from ((Blk.new _ _ _ _).alloc _).below HB1.out (by simp; omega))
      have B1 := Lib.hid (show Blk w1 (w.heap.size + 1) 6 22 (I b) from (Blk.newS (by simp)).below HB1.out (by simp))
      have HB1 := Lib.hid ((((Below.refl w.heap.size w).alloc (by omega) _).alloc (by simp) _).trans (HB1.out.mono (by simp; omega)))
      rw [ha]
      go_wp2_with (first | (refine wpList_load_blk rfl 22 _ rfl (B1.out) rfl Try.underlying22 sz6 ?_) | fail)
      go_at_call 129
      refine (l2Die_any b _).mono ?_
      rintro e w2 ⟨rfl, hb2⟩
      have A2 := Lib.hid (A1.out.below hb2 A1.out.lt)
      have B2 := Lib.hid (B1.out.below hb2 B1.out.lt)
      have HB2 := Lib.hid (HB1.out.trans (hb2.mono HB1.out.size)); clear hb2
      rw [hb]
      go_wp2
      go_ret2
      exact ⟨rfl, HB2.out⟩
    · go_enter Try.func41, Try.ntmps41
      go_wp2_with (first | (refine wpList_load_blk rfl 22 _ rfl ((Blk.new _ _ _ _).alloc _) rfl Try.underlying22 sz6 ?_) | fail)
      go_at_call 129
      refine (l2Die_any a _).mono ?_
      rintro e w1 ⟨rfl, hb1⟩
      have HB1 := Lib.hid hb1; clear hb1
      have A1 := Lib.hid (show Blk w1 w.heap.size 6 22 (I a) from ((Blk.new _ _ _ _).alloc _).below HB1.out (by simp; omega))
      have B1 := Lib.hid (show Blk w1 (w.heap.size + 1) 6 22 (I b) from (Blk.newS (by simp)).below HB1.out (by simp))
      have HB1 := Lib.hid ((((Below.refl w.heap.size w).alloc (by omega) _).alloc (by simp) _).trans (HB1.out.mono (by simp; omega)))
      rw [ha]
      go_wp2_with (first | (refine wpList_load_blk rfl 22 _ rfl (B1.out) rfl Try.underlying22 sz6 ?_) | fail)
      go_at_call 129
      refine (l2Die_any b _).mono ?_
      rintro e w2 ⟨rfl, hb2⟩
      have A2 := Lib.hid (A1.out.below hb2 A1.out.lt)
      have B2 := Lib.hid (B1.out.below hb2 B1.out.lt)
      have HB2 := Lib.hid (HB1.out.trans (hb2.mono HB1.out.size)); clear hb2
      rw [hb]
      clear ha hb
      go_wp2
      go_loopw [6] (fun i wr => ∃ k : Nat, k ≤ 6 ∧ i = .int .i64 k ∧ Blk wr w.heap.size 6 22 (I a) ∧ Blk wr (w.heap.size + 1) 6 22 (I b) ∧ Below w.heap.size w wr ∧ Hid (∀ j, j < k → (!decide (a j < b j)) = true)) (fun i _ => 6 - (intOf i).toNat)
      case atStart => exact ⟨0, by omega, rfl, A2.out, B2.out, HB2.out, fun j hj => by omega⟩
      case round =>
        obtain ⟨k, hk, rfl, hA, hB, hb, HO⟩ := hrel
        by_cases hlt : k < 6
        · have c0 : wr.cell? ⟨w.heap.size, k, none⟩ = some (.int .i64 (a k)) := hA.cell hlt
          have c1 : wr.cell? ⟨w.heap.size + 1, k, none⟩ = some (.int .i64 (b k)) := hB.cell hlt
          have HA := Lib.hid hA; have HB := Lib.hid hB; have Hb := Lib.hid hb
          clear hA hB hb
          by_cases g : a k < b k
          · have F := Lib.hid (allB_false (p := fun k => !decide (a k < b k)) hlt (by simp [g]))
            have b1 : decide (a k < b k) = true := by simp; omega
            go_wp2
            go_quiet (fail)
            go_wp2
            go_ret2
            exact ⟨by (rw [show covB a b = false from F.out]) <;> rfl, below_drewN Hb.out _⟩
          · have b1 : decide (a k < b k) = false := by simp; omega
            have G : Hid (∀ j, j < k + 1 → (!decide (a j < b j)) = true) := fun j hj => if e : j = k then by subst e; simp; omega else HO.out j (by omega)
            go_wp2
            go_quiet (fail)
            go_wp2
            go_roundw
            case rel => exact ⟨k + 1, by omega, by go_num, HA.out.drewN _, HB.out.drewN _, below_drewN Hb.out _, G⟩
            case measure => simp [intOf]; omega
        · have F := Lib.hid ((allB_iff (fun k => !decide (a k < b k)) 6).2 fun j hj => HO.out j (by omega))
          go_wp2
          go_ret2
          exact ⟨by (rw [show covB a b = true from F.out]) <;> rfl, hb⟩

theorem iCover_any (a b : Nat → Int) (w : World) : Calls Try.prog 42 #[dieV a, dieV b] w fun x w' => x = .returned (.tuple #[.bool (coverV a b), .bool (bothB a b)]) ∧ Below w.heap.size w w' := by
  unfold coverV bothB
  cases ha : dieB a
  · go_enter Try.func42, Try.ntmps42
    go_wp2_with (first | (refine wpList_load_blk rfl 22 _ rfl ((Blk.new _ _ _ _).alloc _) rfl Try.underlying22 sz6 ?_) | fail)
    go_at_call 40
    refine (isDie_any a _).mono ?_
    rintro e w1 ⟨rfl, hb1⟩
    have HB1 := Lib.hid hb1; clear hb1
    have A1 := Lib.hid (show Blk w1 w.heap.size 6 22 (I a) from ((Blk.new _ _ _ _).alloc _).below HB1.out (by simp; omega))
    have B1 := Lib.hid (show Blk w1 (w.heap.size + 1) 6 22 (I b) from (Blk.newS (by simp)).below HB1.out (by simp))
    have HB1 := Lib.hid ((((Below.refl w.heap.size w).alloc (by omega) _).alloc (by simp) _).trans (HB1.out.mono (by simp; omega)))
    rw [ha]
    go_wp2
    go_ret2
    exact ⟨rfl, HB1.out⟩
  · cases hb : dieB b
    · go_enter Try.func42, Try.ntmps42
      go_wp2_with (first | (refine wpList_load_blk rfl 22 _ rfl ((Blk.new _ _ _ _).alloc _) rfl Try.underlying22 sz6 ?_) | fail)
      go_at_call 40
      refine (isDie_any a _).mono ?_
      rintro e w1 ⟨rfl, hb1⟩
      have HB1 := Lib.hid hb1; clear hb1
      have A1 := Lib.hid (show Blk w1 w.heap.size 6 22 (I a) from ((Blk.new _ _ _ _).alloc _).below HB1.out (by simp; omega))
      have B1 := Lib.hid (show Blk w1 (w.heap.size + 1) 6 22 (I b) from (Blk.newS (by simp)).below HB1.out (by simp))
      have HB1 := Lib.hid ((((Below.refl w.heap.size w).alloc (by omega) _).alloc (by simp) _).trans (HB1.out.mono (by simp; omega)))
      rw [ha]
      go_wp2_with (first | (refine wpList_load_blk rfl 22 _ rfl (B1.out) rfl Try.underlying22 sz6 ?_) | fail)
      go_at_call 40
      refine (isDie_any b _).mono ?_
      rintro e w2 ⟨rfl, hb2⟩
      have A2 := Lib.hid (A1.out.below hb2 A1.out.lt)
      have B2 := Lib.hid (B1.out.below hb2 B1.out.lt)
      have HB2 := Lib.hid (HB1.out.trans (hb2.mono HB1.out.size)); clear hb2
      rw [hb]
      go_wp2
      go_ret2
      exact ⟨rfl, HB2.out⟩
    · go_enter Try.func42, Try.ntmps42
      go_wp2_with (first | (refine wpList_load_blk rfl 22 _ rfl ((Blk.new _ _ _ _).alloc _) rfl Try.underlying22 sz6 ?_) | fail)
      go_at_call 40
      refine (isDie_any a _).mono ?_
      rintro e w1 ⟨rfl, hb1⟩
      have HB1 := Lib.hid hb1; clear hb1
      have A1 := Lib.hid (show Blk w1 w.heap.size 6 22 (I a) from ((Blk.new _ _ _ _).alloc _).below HB1.out (by simp; omega))
      have B1 := Lib.hid (show Blk w1 (w.heap.size + 1) 6 22 (I b) from (Blk.newS (by simp)).below HB1.out (by simp))
      have HB1 := Lib.hid ((((Below.refl w.heap.size w).alloc (by omega) _).alloc (by simp) _).trans (HB1.out.mono (by simp; omega)))
      rw [ha]
      go_wp2_with (first | (refine wpList_load_blk rfl 22 _ rfl (B1.out) rfl Try.underlying22 sz6 ?_) | fail)
      go_at_call 40
      refine (isDie_any b _).mono ?_
      rintro e w2 ⟨rfl, hb2⟩
      have A2 := Lib.hid (A1.out.below hb2 A1.out.lt)
      have B2 := Lib.hid (B1.out.below hb2 B1.out.lt)
      have HB2 := Lib.hid (HB1.out.trans (hb2.mono HB1.out.size)); clear hb2
      rw [hb]
      clear ha hb
      go_wp2
      go_loopw [15] (fun i wr => ∃ k : Nat, k ≤ 6 ∧ i = .int .i64 k ∧ Blk wr w.heap.size 6 22 (I a) ∧ Blk wr (w.heap.size + 1) 6 22 (I b) ∧ Below w.heap.size w wr ∧ Hid (∀ j, j < k → (!decide (a j < b j)) = true)) (fun i _ => 6 - (intOf i).toNat)
      case atStart => exact ⟨0, by omega, rfl, A2.out, B2.out, HB2.out, fun j hj => by omega⟩
      case round =>
        obtain ⟨k, hk, rfl, hA, hB, hb, HO⟩ := hrel
        by_cases hlt : k < 6
        · have c0 : wr.cell? ⟨w.heap.size, k, none⟩ = some (.int .i64 (a k)) := hA.cell hlt
          have c1 : wr.cell? ⟨w.heap.size + 1, k, none⟩ = some (.int .i64 (b k)) := hB.cell hlt
          have HA := Lib.hid hA; have HB := Lib.hid hB; have Hb := Lib.hid hb
          clear hA hB hb
          by_cases g : a k < b k
          · have F := Lib.hid (allB_false (p := fun k => !decide (a k < b k)) hlt (by simp [g]))
            have b1 : decide (a k < b k) = true := by simp; omega
            go_wp2
            go_quiet (fail)
            go_wp2
            go_ret2
            exact ⟨by (rw [show covB a b = false from F.out]) <;> rfl, below_drewN Hb.out _⟩
          · have b1 : decide (a k < b k) = false := by simp; omega
            have G : Hid (∀ j, j < k + 1 → (!decide (a j < b j)) = true) := fun j hj => if e : j = k then by subst e; simp; omega else HO.out j (by omega)
            go_wp2
            go_quiet (fail)
            go_wp2
            go_roundw
            case rel => exact ⟨k + 1, by omega, by go_num, HA.out.drewN _, HB.out.drewN _, below_drewN Hb.out _, G⟩
            case measure => simp [intOf]; omega
        · have F := Lib.hid ((allB_iff (fun k => !decide (a k < b k)) 6).2 fun j hj => HO.out j (by omega))
          go_wp2
          go_ret2
          exact ⟨by (rw [show covB a b = true from F.out]) <;> rfl, hb⟩

end Go.Proofs.Ytmhlfpcndgoemaa
