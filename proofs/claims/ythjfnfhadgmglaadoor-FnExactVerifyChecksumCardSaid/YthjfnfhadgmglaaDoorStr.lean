/- Contracts of functions of this program, used by the laws of this seat. No condition beyond what each theorem states. -/
import Derived.Test.YthjfnfhadgmglaaDoorProg
import Derived.Test.YthjfnfhadgmglaaDoorBase
import Derived.Outline
import Derived.WalkLawsBesides
import Derived.WalkSpells
import Derived.Deep.QuietTactic
import Derived.BigQuiet
set_option linter.unusedVariables false
set_option linter.unusedSimpArgs false
set_option linter.unusedSectionVars false
namespace Go.Proofs.YthjfnfhadgmglaaDoor
open Go.RowKit

def byteAt (s : ByteArray) (k : Nat) : Int := if h : k < s.size then ((s[k]'h).toNat : Int) else 0
theorem byteAt_bd (s : ByteArray) (k : Nat) : 0 ≤ byteAt s k ∧ byteAt s k ≤ 255 := by
  unfold byteAt
  split
  · rename_i h
    have := (s[k]'h).toNat_lt
    omega
  · omega
theorem byteAt_eq (s : ByteArray) (k : Nat) (h : k < s.size) : ((s[k]'h).toNat : Int) = byteAt s k := by unfold byteAt; rw [dif_pos h]
def hsh (s : ByteArray) : Nat → Int
  | 0 => 7
  | k + 1 => (41 * hsh s k + byteAt s k + 1).tmod 999979
theorem hsh_bd (s : ByteArray) (k : Nat) : 0 ≤ hsh s k ∧ hsh s k < 999979 := by
  induction k with
  | zero => simp [hsh]
  | succ k ih =>
    have := byteAt_bd s k
    simp only [hsh]
    rw [Int.tmod_eq_emod_of_nonneg (by omega)]
    omega

theorem hsh_step (s : ByteArray) (k : Nat) (h : k < s.size) : (wrap64 (wrap64 (41 * hsh s k + wrap64 ((s[k]'h).toNat : Int)) + 1)).tmod 999979 = hsh s (k + 1) := by
  obtain ⟨g1, g2⟩ := hsh_bd s k
  obtain ⟨b1, b2⟩ := byteAt_bd s k
  rw [byteAt_eq s k h]
  have w1 : ∀ x : Int, 0 ≤ x → x ≤ 100000000 → wrap64 x = x := fun x h1 h2 => by unfold wrap64; omega
  rw [w1 (byteAt s k) (by omega) (by omega), w1 (41 * hsh s k + byteAt s k) (by omega) (by omega), w1 _ (by omega) (by omega)]
  rfl

theorem l1Sum_any (s : ByteArray) (hs : s.size ≤ 4000) (w : World) : Calls Tryd.prog 56 #[.string s] w fun e w' => e = .returned (.int .i64 (hsh s s.size)) ∧ w = w' := by
  go_enter Tryd.func56, Tryd.ntmps56
  go_wp2
  go_loopw [3, 4] (fun h i wr => ∃ k : Nat, k ≤ s.size ∧ i = .int .i64 k ∧ h = .int .i64 (hsh s k) ∧ w = wr) (fun h i _ => s.size - (intOf i).toNat)
  case atStart => exact ⟨0, by omega, rfl, rfl, rfl⟩
  case round =>
    obtain ⟨k, hk, rfl, rfl, rfl⟩ := hrel
    by_cases hlt : k < s.size
    · have d1 : decide ((k : Int) < (s.size : Int)) = true := by simp; omega
      obtain ⟨g1, g2⟩ := hsh_bd s k
      go_wp2
      refine ⟨⟨k + 1, by omega, by go_num, congrArg _ (hsh_step s k hlt), trivial⟩, ?_⟩
      simp [intOf]; omega
    · obtain rfl : k = s.size := by omega
      go_wp2
      go_ret
      exact ⟨rfl, rfl⟩
theorem iChecksum_any (s : ByteArray) (hs : s.size ≤ 4000) (w : World) : Calls Tryd.prog 42 #[.string s] w fun e w' => e = .returned (.int .i64 (hsh s s.size)) ∧ w = w' := by
  go_enter Tryd.func42, Tryd.ntmps42
  go_wp2
  go_loopw [3, 7] (fun h i wr => ∃ k : Nat, k ≤ s.size ∧ i = .int .i64 k ∧ h = .int .i64 (hsh s k) ∧ w = wr) (fun h i _ => s.size - (intOf i).toNat)
  case atStart => exact ⟨0, by omega, rfl, rfl, rfl⟩
  case round =>
    obtain ⟨k, hk, rfl, rfl, rfl⟩ := hrel
    by_cases hlt : k < s.size
    · have d1 : decide ((k : Int) < (s.size : Int)) = true := by simp; omega
      obtain ⟨g1, g2⟩ := hsh_bd s k
      go_wp2
      refine ⟨⟨k + 1, by omega, by go_num, congrArg _ (hsh_step s k hlt), trivial⟩, ?_⟩
      simp [intOf]; omega
    · obtain rfl : k = s.size := by omega
      go_wp2
      go_ret
      exact ⟨rfl, rfl⟩
def sumV (s : ByteArray) : Int × Bool := if s.size ≤ 4000 then (hsh s s.size, true) else (0, false)
end Go.Proofs.YthjfnfhadgmglaaDoor
