/- FormatInt, both sides. -/
import Derived.Test.YthjfnfhadgmglaaDoorNum
import Derived.Test.YthjfnfhadgmglaaDoorItoaS
import Derived.Lib.AppendIntMem
import Derived.Test.YthjfnfhadgmglaaDoorFrame
set_option linter.unusedVariables false
set_option linter.unusedSimpArgs false
set_option linter.unusedSectionVars false
namespace Go.Proofs.YthjfnfhadgmglaaDoor
open Go.RowKit
theorem inS_any (x a b : Int) (w : World) : Calls Tryd.prog 32 #[.int .i64 x, .int .i64 a, .int .i64 b] w fun e w' => e = .returned (.bool (decide (a ≤ x) && decide (x ≤ b))) ∧ w = w' := by
  by_cases h1 : a ≤ x
  · go_enter Tryd.func32, Tryd.ntmps32
    go_wp2
    go_ret
    exact ⟨by simp [h1], rfl⟩
  · go_enter Tryd.func32, Tryd.ntmps32
    go_wp2
    go_ret
    exact ⟨by rw [decide_eq_false (show ¬ a ≤ x by omega)]; rfl, rfl⟩
theorem inI_any (x a b : Int) (w : World) : Calls Tryd.prog 53 #[.int .i64 x, .int .i64 a, .int .i64 b] w fun e w' => e = .returned (.bool (decide (a ≤ x) && decide (x ≤ b))) ∧ w = w' := by
  by_cases h1 : a ≤ x
  · go_enter Tryd.func53, Tryd.ntmps53
    go_wp2
    go_ret
    exact ⟨by simp [h1], rfl⟩
  · go_enter Tryd.func53, Tryd.ntmps53
    go_wp2
    go_ret
    exact ⟨by rw [decide_eq_false (show ¬ a ≤ x by omega)]; rfl, rfl⟩
def decB (z : Int) : Bool := decide (-999999 ≤ z) && decide (z ≤ 999999)
def fmtV (z : Int) : ByteArray := if decB z then ⟨(Lib.itoa z).toArray⟩ else ⟨#[]⟩
theorem isDecimal_any (z : Int) (w : World) : Calls Tryd.prog 34 #[.int .i64 z] w fun e w' => e = .returned (.bool (decB z)) ∧ w = w' := by
  unfold decB
  go_enter Tryd.func34, Tryd.ntmps34
  go_wp2_with (first | (go_at_call 53; refine (inI_any _ _ _ _).mono ?_; rintro e w' ⟨rfl, rfl⟩) | fail)
  go_ret
  exact ⟨rfl, rfl⟩
theorem inD_any (z : Int) (w : World) : Calls Tryd.prog 32 #[.int .i64 z, .int .i64 (-999999), .int .i64 999999] w fun e w' => e = .returned (.bool (decB z)) ∧ w = w' := inS_any z (-999999) 999999 w
theorem decB_bd {z : Int} (h : decB z = true) : -999999 ≤ z ∧ z ≤ 999999 := by
  unfold decB at h
  simp only [Bool.and_eq_true, decide_eq_true_eq] at h
  exact h
theorem sFormatInt_any (z : Int) (w : World) : Calls Tryd.prog 10 #[.int .i64 z] w fun e w' => e = .returned (.tuple #[.string (fmtV z), .bool (decB z)]) ∧ ∃ m, w' = w.drewN m := by
  cases g : decB z
  · have HV := Lib.hid (show fmtV z = ⟨#[]⟩ by unfold fmtV; rw [g]; rfl)
    have G := Lib.hid g
    clear g
    rw [HV.out]
    go_enter Tryd.func10, Tryd.ntmps10
    go_wp2_with fail
    go_at_call 32
    refine (inD_any z _).mono ?_
    rintro e w' ⟨rfl, rfl⟩
    rw [G.out]
    go_wp2
    go_ret2
    exact ⟨rfl, 0, rfl⟩
  · have HV := Lib.hid (show fmtV z = ⟨(Lib.itoa z).toArray⟩ by unfold fmtV; rw [g]; rfl)
    have G := Lib.hid g
    have HB := Lib.hid (decB_bd g)
    clear g
    rw [HV.out]
    go_enter Tryd.func10, Tryd.ntmps10
    go_wp2_with fail
    go_at_call 32
    refine (inD_any z _).mono ?_
    rintro e w' ⟨rfl, rfl⟩
    rw [G.out]
    go_wp2_with fail
    go_at_call 33
    refine (num_any z HB.out _).mono ?_
    rintro e w' ⟨rfl, m, rfl⟩
    go_wp2
    go_ret2
    exact ⟨rfl, m, rfl⟩
theorem iFormatInt_any (z : Int) (w : World) (htab : Lib.TabIs Tryd.prog w "internal/strconv.uint64pow10" .u64 Lib.pow10Tab) : Calls Tryd.prog 11 #[.int .i64 z] w fun e w' => e = .returned (.tuple #[.string (fmtV z), .bool (decB z)]) ∧ Below w.heap.size w w' := by
  have HTAB := Lib.hid htab; clear htab
  cases g : decB z
  · have HV := Lib.hid (show fmtV z = ⟨#[]⟩ by unfold fmtV; rw [g]; rfl)
    have G := Lib.hid g
    clear g
    rw [HV.out]
    go_enter Tryd.func11, Tryd.ntmps11
    go_wp2_with fail
    go_at_call 34
    refine (isDecimal_any z _).mono ?_
    rintro e w' ⟨rfl, rfl⟩
    rw [G.out]
    go_wp2
    go_ret2
    exact ⟨rfl, Below.refl _ _⟩
  · have HV := Lib.hid (show fmtV z = ⟨(Lib.itoa z).toArray⟩ by unfold fmtV; rw [g]; rfl)
    have G := Lib.hid g
    obtain ⟨z1, z2⟩ := decB_bd g
    clear g
    rw [HV.out]
    go_enter Tryd.func11, Tryd.ntmps11
    go_wp2_with fail
    go_at_call 34
    refine (isDecimal_any z _).mono ?_
    rintro e w' ⟨rfl, rfl⟩
    rw [G.out]
    go_wp2_with fail
    go_at_call 35
    refine (Tryd.strconv_Itoa z (by omega) (by omega) _ HTAB.out).mono ?_
    rintro e w' ⟨rfl, k, os, rfl⟩
    go_wp2
    go_ret2
    exact ⟨rfl, Lib.below_grow _ _ (Nat.le_refl _) _ _⟩
theorem law_any (z : Int) (w : World) (htab : Lib.TabIs Tryd.prog w "internal/strconv.uint64pow10" .u64 Lib.pow10Tab) : Calls Tryd.prog 3 #[.int .i64 z] w fun e w' => e = .returned (.bool true) ∧ Below w.heap.size w w' := by
  have HTAB := Lib.hid htab; clear htab
  obtain ⟨s, hs⟩ : ∃ s, s = fmtV z := ⟨_, rfl⟩
  obtain ⟨b, hb⟩ : ∃ b, b = decB z := ⟨_, rfl⟩
  have SA := Lib.hid (fun w => sFormatInt_any z w)
  have IA := Lib.hid (fun w h => iFormatInt_any z w h)
  rw [← hs, ← hb] at SA IA
  clear hs hb
  have e1 : (s.toList == s.toList) = true := by simp
  go_enter Tryd.func3, Tryd.ntmps3
  go_wp2_with fail
  go_at_call 10
  refine (SA.out _).mono ?_
  rintro e w' ⟨rfl, m, rfl⟩
  go_wp2_with fail
  go_at_call 11
  refine (IA.out _ (show Lib.TabIs Tryd.prog (w.drewN m) _ _ _ from HTAB.out)).mono ?_
  rintro e w' ⟨rfl, hb⟩
  have HB := Lib.hid (show Below w.heap.size w w' from (below_drewN (Below.refl _ _) m).trans hb)
  clear hb
  go_wp2
  go_ret
  exact ⟨rfl, HB.out⟩
end Go.Proofs.YthjfnfhadgmglaaDoor
