/- RollAt, both sides. -/
import Derived.Test.YtbfhfadfjgfmaaaGrow
import Derived.Test.YtbfhfadfjgfmaaaTable5
set_option linter.unusedVariables false
set_option linter.unusedSimpArgs false
set_option linter.unusedSectionVars false
namespace Go.Proofs.Ytbfhfadfjgfmaaa
open Go.RowKit
/-- Place p of the roll with number k. -/
def rollF (n : Nat) (x : Nat → Nat → Int) (k p : Nat) : Int := x p ((k / sixN (n - 1 - p)) % 6)
def outB (n : Nat) (z : Int) : Bool := decide ((0 : Int) ≤ z) && decide (z ≤ (sixN n : Int) - 1)
noncomputable def rollN (n : Nat) (x : Nat → Nat → Int) (z : Int) : Nat := if poolB n x && outB n z then n else 0
theorem rollN_le (n : Nat) (x : Nat → Nat → Int) (z : Int) : rollN n x z ≤ 1000000 := by
  unfold rollN
  cases g : poolB n x
  · simp
  · have := pool_le g
    split <;> omega
theorem made_int (N : Nat) : madeCells #[.int .i64 0] N = row N (I fun _ => 0) := by
  unfold madeCells
  apply Array.ext
  · simp [row_size]
  · intro i h1 h2
    simp [row, I, Nat.mod_one]
theorem run_makeInts (n : Nat) (hn : n ≤ 1048576) (w : World) : (Instr.makeSlice 60 (.int .i64 (n : Int)) (.int .i64 (n : Int))).run Try.prog w = .ok (.slice (some ⟨w.heap.size, 0, none⟩) n n) (w.alloc (.cells (row n (I fun _ => 0)) 3)) := by
  obtain ⟨i, hi, z1, z2, z3⟩ := info_get infoI
  have h := run_make (P := Try.prog) w 60 3 i _ Try.underlying60 hi z1 .i64 .i64 (n : Int) (n : Int) (by omega) (Int.le_refl _) (by rw [z3]; omega) (by omega)
  rw [h, z2]
  simp only [Int.toNat_natCast, Nat.mul_one]
  rw [show (Value.int .i64 0).cells = #[.int .i64 0] from rfl, made_int]
theorem wpList_makeInts {ops : Array Oper} {rest : List Oper} {o : Oper} {a : Act} {w : World} {Q : Exit → Act → World → Prop} (hw : Region.wanted o (yielded ops a.tmps) = true) {x y : Operand} (ho : o.op = .makeSlice 60 x y)
    {n : Nat} (hx : a.eval x = .int .i64 (n : Int)) (hy : a.eval y = .int .i64 (n : Int)) (hn : n ≤ 1048576) (h : wpList Try.prog ops Q rest (a.put o.dst (.slice (some ⟨w.heap.size, 0, none⟩) n n)) (w.alloc (.cells (row n (I fun _ => 0)) 3))) : wpList Try.prog ops Q (o :: rest) a w := by
  unfold wpList
  rw [if_pos hw]
  left
  unfold Oper.wp execOp
  simp only [ho, hx, hy, Sem.run_bind, Sem.run_pure, Result.andThen_ok, run_makeInts n hn w]
  exact h
theorem isOutcome_any (o : Option Addr) (n c : Nat) (n8 : n ≤ 8) (z : Int) (w : World) : Calls Try.prog 49 #[poolV o n c, .int .i64 z] w fun e w' => e = .returned (.bool (decide ((0 : Int) ≤ z) && decide (z ≤ (sixN n : Int) - 1))) ∧ w = w' := by
  obtain ⟨s1, s2⟩ := sixN_le n n8
  go_enter Try.func49, Try.ntmps49
  go_wp2_with fail
  go_at_call 63
  refine (power_any n n8 _).mono ?_
  rintro e w' ⟨rfl, rfl⟩
  go_wp2_with fail
  go_at_call 85
  refine (within_any _ _ _ _).mono ?_
  rintro e w' ⟨rfl, rfl⟩
  go_wp2
  go_ret
  exact ⟨rfl, rfl⟩
set_option maxHeartbeats 1000000 in
theorem l2Roll_any (o : Option Addr) (n c : Nat) (x : Nat → Nat → Int) (k : Nat) (n1 : 1 ≤ n) (n4 : n ≤ 4) (hk : k ≤ 1000000000) (w : World) (h : PoolAt w o n x) : Calls Try.prog 54 #[poolV o n c, .int .i64 (k : Int)] w fun e w' => e = .returned (.slice (some ⟨w.heap.size, 0, none⟩) n n) ∧ Blk w' w.heap.size n 3 (I (rollF n x k)) ∧ Below w.heap.size w w' := by
  have H := Lib.hid h; clear h
  have hn0 : n ≤ 1048576 := by omega
  go_enter Try.func54, Try.ntmps54
  go_wp2_with (first | (((with_reducible apply wpList_makeInts); (case hw => rfl); (case ho => rfl); (case hx => rfl); (case hy => rfl); (case hn => exact hn0))) | fail)
  go_loopw [1, 6] (fun t i wr => ∃ j : Nat, j ≤ n ∧ i = .int .i64 ((n : Int) - 1 - (j : Int)) ∧ t = .int .i64 ((k / sixN j : Nat) : Int) ∧ Blk wr w.heap.size n 3 (I fun p => if n - j ≤ p then rollF n x k p else 0) ∧ Below w.heap.size w wr) (fun t i _ => ((intOf i) + 1).toNat)
  case atStart => exact ⟨0, by omega, by go_num, by simp [sixN], (Blk.new _ _ _ _).ext (fun p hp => by simp only [I]; rw [if_neg (by omega)]), (Below.refl _ _).alloc (Nat.le_refl _) _⟩
  case round =>
    obtain ⟨j, hj, rfl, rfl, hR, hb⟩ := hrel
    have R1 := Lib.hid hR; have HB := Lib.hid hb
    clear hR hb
    obtain ⟨q, hq⟩ : ∃ q, q = k / sixN j := ⟨_, rfl⟩
    have q1 : q ≤ 1000000000 := by rw [hq]; exact Nat.le_trans (Nat.div_le_self _ _) hk
    have HQ := Lib.hid hq
    rw [← hq]
    clear hq
    by_cases hlt : j < n
    · obtain ⟨p, hp⟩ : ∃ p : Nat, (n : Int) - 1 - (j : Int) = (p : Int) := ⟨n - 1 - j, by omega⟩
      have p1 : p < n := by omega
      have HP := Lib.hid (show p = n - 1 - j by omega)
      rw [hp]
      have HP2 := Lib.hid hp
      clear hp
      obtain ⟨r, hr⟩ : ∃ r, r = q % 6 := ⟨_, rfl⟩
      have r6 : r < 6 := by omega
      have e1 : (q : Int) % 6 = (r : Int) := by omega
      have E2 := Lib.hid (show (q : Int) / 6 = ((q / 6 : Nat) : Int) by omega)
      have HR := Lib.hid hr
      clear hr
      obtain ⟨a, rfl, ha, hc⟩ := H.out.below HB.out p p1
      have c0 : wr.cell? ((a.add (p * 6)).add r) = some (.int .i64 (x p r)) := hc r r6
      have c1 : wr.cell? ⟨w.heap.size, p, none⟩ = some (.int .i64 (if n - j ≤ p then rollF n x k p else 0)) := R1.out.cell p1
      have f1 : wr.frozen? ⟨w.heap.size, p, none⟩ = false := R1.out.free p
      have d0 : decide ((0 : Int) ≤ (p : Int)) = true := by simp
      have HV := Lib.hid (show x p r = rollF n x k p by simp only [rollF]; rw [show n - 1 - p = j by have := HP.out; omega, ← HQ.out, ← HR.out])
      clear hc ha
      go_wp2
      go_roundw
      case rel =>
        refine ⟨j + 1, by omega, ?_, ?_, (R1.out.set p1 _).ext (fun i hi => ?_), HB.out.setCell (Nat.le_refl _) _⟩
        · have := HP2.out
          rw [← this]
          congr 1
          omega
        · rw [show sixN (j + 1) = sixN j * 6 from rfl, ← Nat.div_div_eq_div_mul, ← HQ.out]
          exact congrArg (Value.int .i64) E2.out
        · simp only [upd, I]
          have := HP.out
          by_cases e : i = p
          · subst e; rw [if_pos rfl, if_pos (by omega), HV.out]
          · rw [if_neg e]
            by_cases e3 : n - j ≤ i
            · rw [if_pos e3, if_pos (by omega)]
            · rw [if_neg e3, if_neg (by omega)]
      case measure => (have := HP2.out); (first | (simp [intOf]; done) | (simp [intOf]; omega))
    · obtain rfl : j = n := by omega
      have e0 : (j : Int) - 1 - (j : Int) = -1 := by omega
      rw [e0]
      clear e0
      go_wp2
      go_ret
      exact ⟨rfl, R1.out.ext (fun p hp => by simp only [I]; rw [if_pos (by omega)]), HB.out⟩
set_option maxHeartbeats 1000000 in
theorem rollAt_any (o : Option Addr) (n c : Nat) (x : Nat → Nat → Int) (k : Nat) (n1 : 1 ≤ n) (n4 : n ≤ 4) (hk : k ≤ 1000000000) (w : World) (h : PoolAt w o n x) : Calls Try.prog 51 #[poolV o n c, .int .i64 (k : Int)] w fun e w' => e = .returned (.slice (some ⟨w.heap.size, 0, none⟩) n n) ∧ Blk w' w.heap.size n 3 (I (rollF n x k)) ∧ Below w.heap.size w w' := by
  have H := Lib.hid h; clear h
  have hn0 : n ≤ 1048576 := by omega
  go_enter Try.func51, Try.ntmps51
  go_wp2_with (first | (((with_reducible apply wpList_makeInts); (case hw => rfl); (case ho => rfl); (case hx => rfl); (case hy => rfl); (case hn => exact hn0))) | fail)
  go_loopw [1, 6] (fun t i wr => ∃ j : Nat, j ≤ n ∧ i = .int .i64 ((n : Int) - 1 - (j : Int)) ∧ t = .int .i64 ((k / sixN j : Nat) : Int) ∧ Blk wr w.heap.size n 3 (I fun p => if n - j ≤ p then rollF n x k p else 0) ∧ Below w.heap.size w wr) (fun t i _ => ((intOf i) + 1).toNat)
  case atStart => exact ⟨0, by omega, by go_num, by simp [sixN], (Blk.new _ _ _ _).ext (fun p hp => by simp only [I]; rw [if_neg (by omega)]), (Below.refl _ _).alloc (Nat.le_refl _) _⟩
  case round =>
    obtain ⟨j, hj, rfl, rfl, hR, hb⟩ := hrel
    have R1 := Lib.hid hR; have HB := Lib.hid hb
    clear hR hb
    obtain ⟨q, hq⟩ : ∃ q, q = k / sixN j := ⟨_, rfl⟩
    have q1 : q ≤ 1000000000 := by rw [hq]; exact Nat.le_trans (Nat.div_le_self _ _) hk
    have HQ := Lib.hid hq
    rw [← hq]
    clear hq
    by_cases hlt : j < n
    · obtain ⟨p, hp⟩ : ∃ p : Nat, (n : Int) - 1 - (j : Int) = (p : Int) := ⟨n - 1 - j, by omega⟩
      have p1 : p < n := by omega
      have HP := Lib.hid (show p = n - 1 - j by omega)
      rw [hp]
      have HP2 := Lib.hid hp
      clear hp
      obtain ⟨r, hr⟩ : ∃ r, r = q % 6 := ⟨_, rfl⟩
      have r6 : r < 6 := by omega
      have e1 : (q : Int) % 6 = (r : Int) := by omega
      have E2 := Lib.hid (show (q : Int) / 6 = ((q / 6 : Nat) : Int) by omega)
      have HR := Lib.hid hr
      clear hr
      obtain ⟨a, rfl, ha, hc⟩ := H.out.below HB.out p p1
      have c0 : wr.cell? ((a.add (p * 6)).add r) = some (.int .i64 (x p r)) := hc r r6
      have c1 : wr.cell? ⟨w.heap.size, p, none⟩ = some (.int .i64 (if n - j ≤ p then rollF n x k p else 0)) := R1.out.cell p1
      have f1 : wr.frozen? ⟨w.heap.size, p, none⟩ = false := R1.out.free p
      have d0 : decide ((0 : Int) ≤ (p : Int)) = true := by simp
      have HV := Lib.hid (show x p r = rollF n x k p by simp only [rollF]; rw [show n - 1 - p = j by have := HP.out; omega, ← HQ.out, ← HR.out])
      clear hc ha
      go_wp2
      go_roundw
      case rel =>
        refine ⟨j + 1, by omega, ?_, ?_, (R1.out.set p1 _).ext (fun i hi => ?_), HB.out.setCell (Nat.le_refl _) _⟩
        · have := HP2.out
          rw [← this]
          congr 1
          omega
        · rw [show sixN (j + 1) = sixN j * 6 from rfl, ← Nat.div_div_eq_div_mul, ← HQ.out]
          exact congrArg (Value.int .i64) E2.out
        · simp only [upd, I]
          have := HP.out
          by_cases e : i = p
          · subst e; rw [if_pos rfl, if_pos (by omega), HV.out]
          · rw [if_neg e]
            by_cases e3 : n - j ≤ i
            · rw [if_pos e3, if_pos (by omega)]
            · rw [if_neg e3, if_neg (by omega)]
      case measure => (have := HP2.out); (first | (simp [intOf]; done) | (simp [intOf]; omega))
    · obtain rfl : j = n := by omega
      have e0 : (j : Int) - 1 - (j : Int) = -1 := by omega
      rw [e0]
      clear e0
      go_wp2
      go_ret
      exact ⟨rfl, R1.out.ext (fun p hp => by simp only [I]; rw [if_pos (by omega)]), HB.out⟩
set_option maxHeartbeats 1000000 in
theorem sRollAt_any (o : Option Addr) (n c : Nat) (x : Nat → Nat → Int) (hn : n ≤ 1048576) (z : Int) (w : World) (h : PoolAt w o n x) : Calls Try.prog 47 #[poolV o n c, .int .i64 z] w fun e w' => ∃ A cp, e = .returned (.tuple #[.slice A (rollN n x z) cp, .bool (poolB n x && outB n z)]) ∧ Ints w' w.heap.size A (rollN n x z) cp (rollF n x z.toNat) ∧ Below w.heap.size w w' := by
  have H := Lib.hid h; clear h
  cases g1 : poolB n x
  · have HV := Lib.hid (show rollN n x z = 0 by unfold rollN; rw [g1]; rfl)
    rw [HV.out]
    go_enter Try.func47, Try.ntmps47
    go_wp2_with fail
    go_at_call 38
    refine (l2Pool_any o n c x hn _ H.out).mono ?_
    rintro e w1 ⟨rfl, hb1⟩
    have HB1 := Lib.hid hb1; clear hb1
    rw [g1]
    go_wp2
    go_ret2
    exact ⟨_, 0, rfl, Ints.empty _ _ _ HB1.out.size, HB1.out.alloc HB1.out.size _⟩
  · obtain ⟨n1, n4⟩ := pool_le g1
    have n8 : n ≤ 8 := by omega
    obtain ⟨s1, s2⟩ := sixN_le n n8
    have s3 := sixN_small n4
    have l1 : 0 ≤ (sixN n : Int) - 1 := by omega
    have l2 : (sixN n : Int) - 1 ≤ 1296 := by omega
    cases g2 : outB n z
    · have HV := Lib.hid (show rollN n x z = 0 by unfold rollN; rw [g1, g2]; rfl)
      have HZ := Lib.hid (show (decide ((0 : Int) ≤ z) && decide (z ≤ (sixN n : Int) - 1)) = false from g2)
      rw [HV.out]
      clear g2
      go_enter Try.func47, Try.ntmps47
      go_wp2_with fail
      go_at_call 38
      refine (l2Pool_any o n c x hn _ H.out).mono ?_
      rintro e w1 ⟨rfl, hb1⟩
      have HB1 := Lib.hid hb1; clear hb1
      rw [g1]
      go_wp2_with fail
      go_at_call 53
      refine (l2All_any n n8 _).mono ?_
      rintro e w' ⟨rfl, rfl⟩
      go_wp2_with fail
      go_at_call 84
      refine (in_any _ _ _ _).mono ?_
      rintro e w' ⟨rfl, rfl⟩
      rw [HZ.out]
      go_wp2
      go_ret2
      exact ⟨_, 0, rfl, Ints.empty _ _ _ HB1.out.size, HB1.out.alloc HB1.out.size _⟩
    · have HV := Lib.hid (show rollN n x z = n by unfold rollN; rw [g1, g2]; rfl)
      have HZ := Lib.hid (show (decide ((0 : Int) ≤ z) && decide (z ≤ (sixN n : Int) - 1)) = true from g2)
      rw [HV.out]
      have gz := HZ.out
      simp only [Bool.and_eq_true, decide_eq_true_eq] at gz
      obtain ⟨z1, z2⟩ := gz
      clear g2
      go_enter Try.func47, Try.ntmps47
      go_wp2_with fail
      go_at_call 38
      refine (l2Pool_any o n c x hn _ H.out).mono ?_
      rintro e w1 ⟨rfl, hb1⟩
      have HB1 := Lib.hid hb1; clear hb1
      rw [g1]
      go_wp2_with fail
      go_at_call 53
      refine (l2All_any n n8 _).mono ?_
      rintro e w' ⟨rfl, rfl⟩
      go_wp2_with fail
      go_at_call 84
      refine (in_any _ _ _ _).mono ?_
      rintro e w' ⟨rfl, rfl⟩
      rw [HZ.out]
      obtain ⟨k, hk⟩ := Int.eq_ofNat_of_zero_le z1
      subst hk
      go_wp2_with fail
      go_at_call 54
      refine (l2Roll_any o n c x k n1 n4 (by omega) _ (H.out.below HB1.out)).mono ?_
      rintro e w2 ⟨rfl, hR, hb2⟩
      have R2 := Lib.hid hR
      have HB2 := Lib.hid (HB1.out.trans (hb2.mono HB1.out.size))
      have HS := Lib.hid HB1.out.size
      clear hR hb2
      go_wp2
      go_ret2
      exact ⟨_, n, rfl, Ints.ofBlk HS.out (Nat.le_refl _) (by unfold maxLen; omega) R2.out (fun i hi => rfl), HB2.out⟩
end Go.Proofs.Ytbfhfadfjgfmaaa
