/- markText; slices of texts: how a law compares them, marks them and asks for the marks. -/
import Derived.Test.YthjfnfhadgmglaaStrs
import Derived.Deep.QuietTactic
import Derived.BigQuiet
import Derived.RegionTactic
set_option linter.unusedVariables false
set_option linter.unusedSimpArgs false
set_option linter.unusedSectionVars false
namespace Go.Proofs.Ythjfnfhadgmglaa
open Go.RowKit
/-- The text that markText writes for k. -/
def markB (k : Nat) : ByteArray := ⟨#[109]⟩ ++ ⟨(Lib.decDigits k).toArray⟩
theorem mk_small {d : Nat} (h : d < 10) : Lib.decDigits d = [UInt8.ofNat (48 + d)] := by rw [Lib.decDigits, dif_pos h]
theorem mk_big {u : Nat} (h : ¬ u < 10) : Lib.decDigits u = Lib.decDigits (u / 10) ++ [UInt8.ofNat (48 + u % 10)] := by rw [Lib.decDigits, dif_neg h]
/-- What is left of the numeral's digits ahead of the place reached. -/
def ahead (u : Nat) : List UInt8 := if u = 0 then [] else Lib.decDigits u
theorem ahead_step {u : Nat} (h : 0 < u) : ahead u = ahead (u / 10) ++ [UInt8.ofNat (48 + u % 10)] := by
  unfold ahead
  rw [if_neg (by omega)]
  by_cases hs : u < 10
  · rw [if_pos (by omega), mk_small hs, Nat.mod_eq_of_lt hs]; rfl
  · rw [if_neg (by omega), mk_big hs]
theorem ahead_len : ∀ k u, u < 10 ^ k → (ahead u).length ≤ k
  | 0, u, h => by
    obtain rfl : u = 0 := by simpa using h
    simp [ahead]
  | k + 1, u, h => by
    by_cases e : u = 0
    · subst e; simp [ahead]
    · rw [ahead_step (by omega), List.length_append]
      have := ahead_len k (u / 10) (by rw [Nat.pow_succ] at h; omega)
      simp
      omega
theorem mk_byte {d : Nat} {b : UInt8} (h : b.toNat = 48 + d) (w : World) (C : Value) (hC : C = .int .u8 (48 + (d : Int))) : (convert 40 9 (.slice (some ⟨w.heap.size, 0, none⟩) 1 1)).run Try.prog (w.alloc (.cells #[C] 5)) = .ok (.string ⟨#[b]⟩) (w.alloc (.cells #[C] 5)) :=
  run_convert_bytes_back (P := Try.prog) (w.alloc (.cells #[C] 5)) 40 9 5 ⟨w.heap.size, 0, none⟩ 1 [b] Try.underlying40 Try.underlying5 Try.underlying9 (fun j hj => by
    obtain rfl : j = 0 := by simp at hj; omega
    simp [hC, Addr.add, h])
set_option maxHeartbeats 1000000 in
theorem eqStrs_any (o1 o2 : Option Addr) (m c1 c2 B1 B2 : Nat) (f : Nat → ByteArray) (hm : m ≤ 1100000) (w : World) (h1 : Strs w B1 o1 m c1 f) (h2 : Strs w B2 o2 m c2 f) : Calls Try.prog 15 #[.slice o1 m c1, .slice o2 m c2] w fun e w' => e = .returned (.bool true) ∧ Below w.heap.size w w' := by
  have H1 := Lib.hid h1; have H2 := Lib.hid h2; clear h1 h2
  have d0 : ((m : Int) == (m : Int)) = true := by simp
  go_enter Try.func15, Try.ntmps15
  go_wp2
  go_loopw [5] (fun i wr => ∃ k : Nat, k ≤ m ∧ i = .int .i64 (k : Int) ∧ Below w.heap.size w wr) (fun i _ => m - (intOf i).toNat)
  case atStart => exact ⟨0, by omega, rfl, Below.refl _ _⟩
  case round =>
    obtain ⟨k, hk, rfl, hb⟩ := hrel
    by_cases hlt : k < m
    · obtain ⟨g1, rfl, _, _, c1⟩ := (H1.out.below hb).cell hlt
      obtain ⟨g2, rfl, _, _, c2⟩ := (H2.out.below hb).cell hlt
      have d1 : decide (k < m) = true := by simp; omega
      have HB := Lib.hid hb
      clear hb
      go_wp2
      go_quiet (fail)
      go_wp2
      go_roundw
      case rel => exact ⟨k + 1, by omega, by go_num, below_drewN HB.out _⟩
      case measure => simp [intOf]; omega
    · have d1 : decide (k < m) = false := by simp; omega
      go_wp2
      go_ret
      exact ⟨rfl, hb⟩
end Go.Proofs.Ythjfnfhadgmglaa
