/- Contracts of functions of this program, used by the laws of this seat. No condition beyond what each theorem states. -/
import Derived.Test.YtbfhfadfjgfmaaaBeat2
set_option linter.unusedVariables false
set_option linter.unusedSimpArgs false
set_option linter.unusedSectionVars false
namespace Go.Proofs.Ytbfhfadfjgfmaaa
open Go.RowKit

def beatI (a b : Nat → Int) : Int := cmpI (cmpAll a b 6 0) (cmpAll a b 6 2)
def beatB (a b : Nat → Int) : Bool := decide (cmpAll a b 6 2 < cmpAll a b 6 0)
theorem beatI_pos (a b : Nat → Int) : decide (0 < beatI a b) = beatB a b := by
  unfold beatI beatB cmpI
  by_cases h1 : cmpAll a b 6 0 < cmpAll a b 6 2
  · rw [if_pos h1]; simp; omega
  · by_cases h2 : cmpAll a b 6 2 < cmpAll a b 6 0
    · rw [if_neg h1, if_pos h2]; simp [h2]
    · rw [if_neg h1, if_neg h2]; simp; omega

theorem beats_any (a b : Nat → Int) (w : World) : Calls Try.prog 70 #[dieV a, dieV b] w fun e w' => e = .returned (.int .i64 (beatI a b)) ∧ Below w.heap.size w w' := by
  go_enter Try.func70, Try.ntmps70
  go_wp2_with (first | (refine wpList_load_blk rfl 53 _ rfl ((Blk.new _ _ _ _).alloc _) rfl Try.underlying53 sz6 ?_) | (refine wpList_load_blk rfl 53 _ rfl (Blk.newS (b := w.heap.size + 1) (by simp)) rfl Try.underlying53 sz6 ?_) | fail)
  go_at_call 105
  refine (compared_any a b _).mono ?_
  rintro e w1 ⟨rfl, hb1⟩
  have HB1 := Lib.hid hb1; clear hb1
  have A1 := Lib.hid (show Blk w1 w.heap.size 6 53 (I a) from ((Blk.new _ _ _ _).alloc _).below HB1.out (by simp; omega))
  have B1 := Lib.hid (show Blk w1 (w.heap.size + 1) 6 53 (I b) from (Blk.newS (by simp)).below HB1.out (by simp))
  have HB1 := Lib.hid ((((Below.refl w.heap.size w).alloc (by omega) _).alloc (by simp) _).trans (HB1.out.mono (by simp; omega)))
  have c0 := (Blk.new w1 3 86 (I (cmpAll a b 6))).cell (i := 0) (by omega)
  have c2 := (Blk.new w1 3 86 (I (cmpAll a b 6))).cell (i := 2) (by omega)
  simp only [I] at c0 c2
  go_wp2_with (first | (refine wpList_alloc_blk rfl 86 rfl zero3 ?_) | (refine wpList_store_new rfl 86 _ _ rfl rfl rfl (by first | rfl | (simp; done)) sz3 (fun _ _ => rfl) ?_) | (go_at_call 75; refine (compare_any _ _ _).mono ?_; rintro e w' ⟨rfl, rfl⟩) | fail)
  go_ret
  exact ⟨rfl, HB1.out.alloc (by have := HB1.out.size; omega) _⟩
theorem l3Beats_any (a b : Nat → Int) (w : World) : Calls Try.prog 101 #[dieV a, dieV b] w fun e w' => e = .returned (.bool (beatB a b)) ∧ Below w.heap.size w w' := by
  go_enter Try.func101, Try.ntmps101
  go_wp2_with (first | (refine wpList_load_blk rfl 53 _ rfl ((Blk.new _ _ _ _).alloc _) rfl Try.underlying53 sz6 ?_) | (refine wpList_load_blk rfl 53 _ rfl (Blk.newS (b := w.heap.size + 1) (by simp)) rfl Try.underlying53 sz6 ?_) | fail)
  go_at_call 80
  refine (l3Compare_any a b _).mono ?_
  rintro e w1 ⟨rfl, hb1⟩
  have HB1 := Lib.hid hb1; clear hb1
  have A1 := Lib.hid (show Blk w1 w.heap.size 6 53 (I a) from ((Blk.new _ _ _ _).alloc _).below HB1.out (by simp; omega))
  have B1 := Lib.hid (show Blk w1 (w.heap.size + 1) 6 53 (I b) from (Blk.newS (by simp)).below HB1.out (by simp))
  have HB1 := Lib.hid ((((Below.refl w.heap.size w).alloc (by omega) _).alloc (by simp) _).trans (HB1.out.mono (by simp; omega)))
  have c0 := (Blk.new w1 3 86 (I (cmpAll a b 6))).cell (i := 0) (by omega)
  have c2 := (Blk.new w1 3 86 (I (cmpAll a b 6))).cell (i := 2) (by omega)
  simp only [I] at c0 c2
  go_wp2_with (first | (refine wpList_alloc_blk rfl 86 rfl zero3 ?_) | (refine wpList_store_new rfl 86 _ _ rfl rfl rfl (by first | rfl | (simp; done)) sz3 (fun _ _ => rfl) ?_) | fail)
  go_ret
  exact ⟨rfl, HB1.out.alloc (by have := HB1.out.size; omega) _⟩

noncomputable def bothD (a b : Nat → Int) : Bool := dieB a && dieB b
noncomputable def compareV (a b : Nat → Int) : Nat → Int := if bothD a b then cmpAll a b 6 else fun _ => 0
noncomputable def beatV (a b : Nat → Int) : Bool := bothD a b && beatB a b
end Go.Proofs.Ytbfhfadfjgfmaaa
