/- Contracts of functions of this program, used by the laws of this seat. No condition beyond what each theorem states. -/
import Derived.Test.YtbfhfadfjgfmaaaEq
import Derived.Test.YtbfhfadfjgfmaaaTail
import Derived.Test.YtbfhfadfjgfmaaaPart
set_option linter.unusedVariables false
set_option linter.unusedSimpArgs false
set_option linter.unusedSectionVars false
namespace Go.Proofs.Ytbfhfadfjgfmaaa
open Go.RowKit
def fracV (p q : Nat) : Nat → Int := fun i => if i = 0 then ((p / Nat.gcd p q : Nat) : Int) else ((q / Nat.gcd p q : Nat) : Int)
theorem made2 (a b : Int) : Try.prog.built 43 [(0, .int .i64 a), (1, .int .i64 b)] = some (row 2 (I fun i => if i = 0 then a else b)) := by kernel_rfl
theorem quiet_build {P : Program} {oo : Oper} {ac : Act} {w0 : World} {K : Act → Prop} {ty : TypeId} (parts : Array (Nat × Operand)) (ho : oo.op = .build ty parts) {n : Nat} {f : Nat → Value}
    (hb : P.built ty (parts.map fun (i, x) => (i, ac.eval x)).toList = some (row n f)) (hk : K (ac.put oo.dst (.agg (row n f)))) : oo.quiet P ac (Grew w0) K := by
  refine ⟨_, fun w hw => ?_, hk⟩
  unfold Oper.quietAt execOp
  simp only [ho, Sem.run_bind, run_build w ty _ _ hb, Result.andThen_ok, Sem.run_pure]
  exact ⟨rfl, rfl⟩
theorem grown_build2 {oo : Oper} {ac : Act} {w0 : World} {K : Act → Prop} (x y : Operand) (ho : oo.op = .build 43 #[(0, x), (1, y)]) {a b : Int} (hx : ac.eval x = .int .i64 a) (hy : ac.eval y = .int .i64 b)
    (hk : K (ac.put oo.dst (.agg (row 2 (I fun i => if i = 0 then a else b))))) : oo.quiet Try.prog ac (Grew w0) K :=
  quiet_build #[(0, x), (1, y)] ho (by simpa [hx, hy] using made2 a b) hk
theorem gcd_step (p q : Nat) : Nat.gcd q (p % q) = Nat.gcd p q := by rw [Nat.gcd_comm, ← Nat.gcd_rec, Nat.gcd_comm]
theorem tmod_nat (p q : Nat) : Int.tmod (p : Int) (q : Int) = ((p % q : Nat) : Int) := by
  rw [Int.tmod_eq_emod_of_nonneg (by omega)]; rfl
theorem tdiv_nat (p q : Nat) : Int.tdiv (p : Int) (q : Int) = ((p / q : Nat) : Int) := by
  rw [Int.tdiv_eq_ediv_of_nonneg (by omega)]; rfl

theorem frac_wrap (p q : Nat) (hp : p ≤ 1000000000) (hq : q ≤ 1000000000) : (fun i : Nat => if i = 0 then wrap64 ((p : Int) / ((Nat.gcd p q : Nat) : Int)) else wrap64 ((q : Int) / ((Nat.gcd p q : Nat) : Int))) = fracV p q := by
  have h : ∀ m k : Nat, m ≤ 1000000000 → wrap64 ((m : Int) / (k : Int)) = ((m / k : Nat) : Int) := fun m k hm => by
    have h1 : m / k ≤ m := Nat.div_le_self m k
    have h2 : (m : Int) / (k : Int) = ((m / k : Nat) : Int) := rfl
    rw [h2]
    generalize m / k = z at *
    unfold wrap64
    omega
  funext i
  unfold fracV
  rw [h p _ hp, h q _ hq]
theorem fraction_any (p q : Nat) (hp : p ≤ 1000000000) (hq0 : 0 < q) (hq : q ≤ 1000000000) (w : World) : Calls Try.prog 62 #[.int .i64 (p : Int), .int .i64 (q : Int)] w fun e w' => e = .returned (.agg (row 2 (I (fracV p q)))) ∧ Below w.heap.size w w' := by
  have hgp : 0 < Nat.gcd p q := Nat.gcd_pos_of_pos_right p hq0
  go_enter Try.func62, Try.ntmps62
  go_wp2_with (first | (refine wpList_alloc_blk rfl 43 rfl zero2 ?_) | fail)
  go_loopw [5, 6] (fun a b wr => ∃ r s : Nat, a = .int .i64 (r : Int) ∧ b = .int .i64 (s : Int) ∧ Nat.gcd r s = Nat.gcd p q ∧ r ≤ 1000000000 ∧ s ≤ 1000000000 ∧ Blk wr w.heap.size 2 43 (I fun _ => 0) ∧ Below w.heap.size w wr) (fun a b _ => (intOf b).toNat)
  case atStart => exact ⟨p, q, rfl, rfl, rfl, hp, hq, Blk.new _ _ _ _, (Below.refl _ _).alloc (Nat.le_refl _) _⟩
  case round =>
    obtain ⟨r, s, rfl, rfl, hgc, hr, hs, hR, hb⟩ := hrel
    have HR := Lib.hid hR; have HB := Lib.hid hb
    clear hR hb
    by_cases h0 : s = 0
    · subst h0
      rw [Nat.gcd_zero_right] at hgc
      have d0 : ((r : Int) == 0) = false := by simp; omega
      have e1 := tdiv_nat p r
      have e2 := tdiv_nat q r
      go_wp2
      refine wp_region_grown_tail 7 (by kernel_rfl) (by kernel_rfl) ?_
      simp only [List.take_succ_cons, List.take_zero, List.drop_succ_cons, List.drop_zero]
      repeat (first | go_big_quiet_skip | (go_big_quiet_want; (first | (refine grown_build2 _ _ rfl rfl rfl ?_; simp only [Act.put, List.setIfInBounds_toArray, List.set_cons_succ, List.set_cons_zero]; go_big_quiet_on) | (go_big_quiet_op; (first | go_big_quiet_on | (refine ⟨_, fun _ _ => rfl, ?_⟩; go_big_quiet_on) | (apply Exists.intro; refine ⟨fun _ hC => ?_, ?_⟩; (first | fail); go_big_quiet_on))))))
      refine wpQuiet_nil ?_
      intro wg hg
      have R2 := Lib.hid (HR.out.below hg.below HR.out.lt)
      have HB2 := Lib.hid (HB.out.trans (hg.below.mono HB.out.size))
      clear hg
      go_wp2_with (first | (refine wpList_store_blk rfl 43 _ _ rfl (R2.out) rfl rfl sz2 (fun _ _ => rfl) ?_) | fail)
      exact post_blk rfl (R2.out.setRow _) rfl Try.underlying43 sz2 rfl ⟨congrArg (fun f => Ending.returned (Value.agg (row 2 (I f)))) (frac_wrap p q hp hq), below_setRow HB2.out (by (focus (first | omega | (simp; done) | (simp; omega)))) _⟩
    · have d0 : ((s : Int) != 0) = true := by simp; omega
      have d1 : ((s : Int) == 0) = false := by simp; omega
      have e1 : (r : Int) % (s : Int) = ((r % s : Nat) : Int) := rfl
      go_wp2
      go_quiet (fail)
      go_wp2
      go_roundw
      case rel => exact ⟨s, r % s, rfl, by rw [e1], by rw [gcd_step, hgc], by omega, by have := Nat.mod_lt r (by omega : 0 < s); omega, HR.out.drewN _, below_drewN HB.out _⟩
      case measure =>
        have h1 := Nat.mod_lt r (by omega : 0 < s)
        show ((r : Int) % (s : Int)).toNat < ((s : Int)).toNat
        rw [e1]
        generalize r % s = z at *
        omega
end Go.Proofs.Ytbfhfadfjgfmaaa
