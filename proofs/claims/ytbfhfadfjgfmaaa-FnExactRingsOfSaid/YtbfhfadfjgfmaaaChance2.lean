/- ChanceAtLeast, both sides. -/
import Derived.Test.YtbfhfadfjgfmaaaChance
set_option linter.unusedVariables false
set_option linter.unusedSimpArgs false
set_option linter.unusedSectionVars false
namespace Go.Proofs.Ytbfhfadfjgfmaaa
open Go.RowKit
theorem wpList_slice_lo {P : Program} {ops : Array Oper} {rest : List Oper} {o : Oper} {a : Act} {w : World} {Q : Exit → Act → World → Prop} (hw : Region.wanted o (yielded ops a.tmps) = true) {ty : TypeId} {p l : Operand} (ho : o.op = .slice ty p (some l) none none) {V L r : Value}
    (hx : a.eval p = V) (hy : a.eval l = L) (hr : ∀ w, (Instr.sliceAt ty V (some L) none none).run P w = .ok r w) (h : wpList P ops Q rest (a.put o.dst r) w) : wpList P ops Q (o :: rest) a w := by
  unfold wpList
  rw [if_pos hw]
  left
  unfold Oper.wp execOp
  simp only [ho, hx, hy, Sem.run_bind, Sem.run_pure, Option.map_some, Option.map_none, hr, Result.andThen_ok]
  exact h
/-- The sum of a list of ints that lies anywhere. -/
theorem total_at (p : Addr) (n c : Nat) (d : Nat → Int) (m : Int) (hn : n ≤ 1000) (hm : 0 ≤ m ∧ m ≤ 1000000) (hd : ∀ j, j < n → 0 ≤ d j ∧ d j ≤ m) (w : World) (h0 : ∀ j, j < n → w.cell? (p.add j) = some (.int .i64 (d j))) :
    Calls Try.prog 95 #[.slice (some p) n c] w fun e w' => e = .returned (.int .i64 (sumF d n)) ∧ w = w' := by
  have H0 := Lib.hid h0; have HD := Lib.hid hd; clear h0 hd
  go_enter Try.func95, Try.ntmps95
  go_wp2
  go_loopw [3, 8] (fun s i wr => ∃ k : Nat, k ≤ n ∧ i = .int .i64 k ∧ s = .int .i64 (sumF d k) ∧ w = wr) (fun s i _ => n - (intOf i).toNat)
  case atStart => exact ⟨0, by omega, rfl, rfl, rfl⟩
  case round =>
    obtain ⟨k, hk, rfl, rfl, rfl⟩ := hrel
    by_cases hlt : k < n
    · have c0 : w.cell? (p.add k) = some (.int .i64 (d k)) := H0.out k hlt
      have h1 := sumF_bd (f := d) (m := m) k (fun j hj => HD.out j (by omega))
      have h2 := HD.out k hlt
      have h3 : m * (k : Int) ≤ 1000000000 := by
        have : m * (k : Int) ≤ 1000000 * 1000 := Int.mul_le_mul hm.2 (by omega) (by omega) (by omega)
        omega
      obtain ⟨e1, e2⟩ := h1
      have e3 : sumF d k ≤ 1000000000 := by omega
      obtain ⟨e4, e5⟩ := h2
      obtain ⟨m1, m2⟩ := hm
      clear e2 h3
      go_wp2
      go_roundw
      case rel => exact ⟨k + 1, by omega, by go_num, rfl, trivial⟩
      case measure => simp [intOf]; omega
    · have e0 : k = n := by omega
      go_wp2
      go_ret
      exact ⟨by (first | rfl | (rw [e0]; rfl)), rfl⟩
end Go.Proofs.Ytbfhfadfjgfmaaa
