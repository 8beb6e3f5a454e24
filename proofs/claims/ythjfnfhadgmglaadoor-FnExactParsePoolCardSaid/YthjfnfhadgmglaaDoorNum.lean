/- The reference's l1Num writes a number's decimal. -/
import Derived.Test.YthjfnfhadgmglaaDoorBase
import Derived.BigQuiet
import Derived.Test.YthjfnfhadgmglaaDoorRows
import Derived.Lib.ItoaNum
import Derived.IntWalk
import Derived.Laws.Concat
set_option linter.unusedVariables false
set_option linter.unusedSimpArgs false
set_option linter.unusedSectionVars false
namespace Go.Proofs.YthjfnfhadgmglaaDoor
open Go.RowKit
theorem dig_small {d : Nat} (h : d < 10) : Lib.decDigits d = [UInt8.ofNat (48 + d)] := by rw [Lib.decDigits, dif_pos h]
theorem dig_big {u : Nat} (h : ¬ u < 10) : Lib.decDigits u = Lib.decDigits (u / 10) ++ [UInt8.ofNat (48 + u % 10)] := by rw [Lib.decDigits, dif_neg h]
theorem num_small (d : Nat) (hd : d < 10) (w : World) : Calls Tryd.prog 33 #[.int .i64 (d : Int)] w fun e w' => e = .returned (.string ⟨(Lib.decDigits d).toArray⟩) ∧ w = w' := by
  rw [dig_small hd]
  have h : d = 0 ∨ d = 1 ∨ d = 2 ∨ d = 3 ∨ d = 4 ∨ d = 5 ∨ d = 6 ∨ d = 7 ∨ d = 8 ∨ d = 9 := by omega
  rcases h with rfl | rfl | rfl | rfl | rfl | rfl | rfl | rfl | rfl | rfl
  all_goals
    go_enter Tryd.func33, Tryd.ntmps33
    go_wp2
    go_ret
    exact ⟨rfl, rfl⟩
abbrev digs : ByteArray := ⟨#[48, 49, 50, 51, 52, 53, 54, 55, 56, 57]⟩
theorem dig_ext {d : Nat} (h : d < 10) : digs.extract d (d + 1) = ⟨#[UInt8.ofNat (48 + d)]⟩ := by
  have h : d = 0 ∨ d = 1 ∨ d = 2 ∨ d = 3 ∨ d = 4 ∨ d = 5 ∨ d = 6 ∨ d = 7 ∨ d = 8 ∨ d = 9 := by omega
  rcases h with rfl | rfl | rfl | rfl | rfl | rfl | rfl | rfl | rfl | rfl <;> rfl
theorem dig_app (l r : List UInt8) : (⟨l.toArray⟩ ++ ⟨r.toArray⟩ : ByteArray) = ⟨(l ++ r).toArray⟩ := by
  apply ByteArray.ext
  simp [ByteArray.data_append]
theorem dig_len : ∀ k u, 1 ≤ k → u < 10 ^ k → (Lib.decDigits u).length ≤ k
  | 0, _, h, _ => by omega
  | k + 1, u, _, h => by
    by_cases hs : u < 10
    · rw [dig_small hs]; simp
    · rw [dig_big hs, List.length_append]
      have hk : 1 ≤ k := by
        by_cases e : k = 0
        · subst e; simp at h; omega
        · omega
      have := dig_len k (u / 10) hk (by rw [Nat.pow_succ] at h; omega)
      simp
      omega
theorem calls_drewN {P : Program} {f : Nat} {args : Array Value} {w : World} {n : Nat} {v : Value}
    (h : Calls P f args (w.drewN n) fun e w' => e = .returned v ∧ ∃ m, w' = (w.drewN n).drewN m) : Calls P f args (w.drewN n) fun e w'' => e = .returned v ∧ ∃ m, w'' = w.drewN m :=
  h.mono fun e w' h => ⟨h.1, by obtain ⟨m, hm⟩ := h.2; exact ⟨n + m, by rw [hm, World.drewN_drewN]⟩⟩
set_option maxRecDepth 100000 in
set_option maxHeartbeats 400000 in
theorem num_nat (u : Nat) : u ≤ 999999 → ∀ w : World, Calls Tryd.prog 33 #[.int .i64 (u : Int)] w fun e w' => e = .returned (.string ⟨(Lib.decDigits u).toArray⟩) ∧ ∃ m, w' = w.drewN m := by
  induction u using Nat.strongRecOn with
  | _ u ih =>
    intro hu w
    by_cases hs : u < 10
    · exact (num_small u hs w).mono fun e w' h => ⟨h.1, 0, by rw [← h.2]; rfl⟩
    · have IH := Lib.hid (ih (u / 10) (by omega) (by omega))
      clear ih
      rw [dig_big hs]
      obtain ⟨q, hq⟩ : ∃ q, q = u / 10 := ⟨_, rfl⟩
      obtain ⟨d, hd⟩ : ∃ d, d = u % 10 := ⟨_, rfl⟩
      have hq2 : (u : Int) / 10 = (q : Int) := by omega
      have hd2 : (u : Int) % 10 = (d : Int) := by omega
      have ht : (u : Int).tdiv 10 = (q : Int) := by rw [Int.tdiv_eq_ediv_of_nonneg (by omega)]; exact hq2
      have hm : (u : Int).tmod 10 = (d : Int) := by rw [Int.tmod_eq_emod_of_nonneg (by omega)]; exact hd2
      have hw1 : IntKind.i64.wrap (q : Int) = (q : Int) := IntWalk.i64_in _ (by omega)
      have hw2 : IntKind.i64.wrap (d : Int) = (d : Int) := IntWalk.i64_in _ (by omega)
      have hw3 : IntKind.i64.wrap ((d : Int) + 1) = (d : Int) + 1 := IntWalk.i64_in _ (by omega)
      clear hq2 hd2
      have hd3 : d < 10 := by omega
      have hl := dig_len 6 q (by omega) (by omega)
      have hadd := Lib.hid (fun w => run_string_add_sum (P := Tryd.prog) (w := w) ⟨(Lib.decDigits q).toArray⟩ (digs.extract d (d + 1)) (by rw [dig_ext hd3]; simp [ByteArray.size]; omega))
      have happ := Lib.hid (show (⟨(Lib.decDigits q).toArray⟩ ++ digs.extract d (d + 1) : ByteArray) = ⟨(Lib.decDigits q ++ [UInt8.ofNat (48 + d)]).toArray⟩ by rw [dig_ext hd3]; exact dig_app _ _)
      have d0 : decide ((u : Int) < 0) = false := by simp
      have d1 : decide ((u : Int) < 10) = false := by simp; omega
      rw [← hq, ← hd]
      rw [← hq] at IH
      clear hq hd
      have h : d = 0 ∨ d = 1 ∨ d = 2 ∨ d = 3 ∨ d = 4 ∨ d = 5 ∨ d = 6 ∨ d = 7 ∨ d = 8 ∨ d = 9 := by omega
      rcases h with rfl | rfl | rfl | rfl | rfl | rfl | rfl | rfl | rfl | rfl
      all_goals
        clear hd3 hs hw2 hw3
        have k1 : IntKind.i64.wrap 1 = 1 := by decide
        have k2 : IntKind.i64.wrap 2 = 2 := by decide
        have k3 : IntKind.i64.wrap 3 = 3 := by decide
        have k4 : IntKind.i64.wrap 4 = 4 := by decide
        have k5 : IntKind.i64.wrap 5 = 5 := by decide
        have k6 : IntKind.i64.wrap 6 = 6 := by decide
        have k7 : IntKind.i64.wrap 7 = 7 := by decide
        have k8 : IntKind.i64.wrap 8 = 8 := by decide
        have k9 : IntKind.i64.wrap 9 = 9 := by decide
        have k10 : IntKind.i64.wrap 10 = 10 := by decide
        have hadd := hadd.out
        go_enter Tryd.func33, Tryd.ntmps33
        go_wp2
        go_quiet ((go_at_call 33; with_reducible exact calls_drewN (IH.out _)))
        go_wp2
        go_ret
        exact ⟨congrArg (fun b => Ending.returned (Value.string b)) happ.out, _, rfl⟩
set_option maxRecDepth 100000 in
set_option maxHeartbeats 1000000 in
theorem num_neg (u : Nat) : 1 ≤ u → u ≤ 999999 → ∀ w : World, Calls Tryd.prog 33 #[.int .i64 (-(u : Int))] w fun e w' => e = .returned (.string ⟨(45 :: Lib.decDigits u).toArray⟩) ∧ ∃ m, w' = w.drewN m := by
  induction u using Nat.strongRecOn with
  | _ u ih =>
    intro h1 hu w
    have d0 : decide (0 < u) = true := by simp; omega
    by_cases hs : u < 10
    · have d1 : decide ((u : Int) < 10) = true := by simp; omega
      have hadd := fun w => run_string_add_sum (P := Tryd.prog) (w := w) ⟨#[45]⟩ ⟨(Lib.decDigits u).toArray⟩ (by have := dig_len 6 u (by omega) (by omega); simp [ByteArray.size]; omega)
      have happ := Lib.hid (show (⟨#[45]⟩ ++ ⟨(Lib.decDigits u).toArray⟩ : ByteArray) = ⟨(45 :: Lib.decDigits u).toArray⟩ from dig_app [45] _)
      have NS := Lib.hid (num_small u hs)
      clear ih hs
      go_enter Tryd.func33, Tryd.ntmps33
      go_wp2_with fail
      go_at_call 33
      with_reducible refine (NS.out _).mono ?_
      rintro e w' ⟨rfl, rfl⟩
      go_wp2
      go_ret
      exact ⟨congrArg (fun b => Ending.returned (Value.string b)) happ.out, 0, rfl⟩
    · have d1 : decide ((u : Int) < 10) = false := by simp; omega
      have IH := Lib.hid (ih (u / 10) (by omega) (by omega) (by omega))
      clear ih
      obtain ⟨q, hq⟩ : ∃ q, q = u / 10 := ⟨_, rfl⟩
      obtain ⟨d, hd⟩ : ∃ d, d = u % 10 := ⟨_, rfl⟩
      have hd3 : d < 10 := by omega
      have ht : (u : Int) / 10 = (q : Int) := by omega
      have hm : (u : Int) % 10 = (d : Int) := by omega
      have NS := Lib.hid (num_small d hd3)
      have hl := dig_len 6 q (by omega) (by omega)
      have hadd := fun w => run_string_add_sum (P := Tryd.prog) (w := w) ⟨(45 :: Lib.decDigits q).toArray⟩ ⟨(Lib.decDigits d).toArray⟩ (by rw [dig_small hd3]; simp [ByteArray.size]; omega)
      have happ := Lib.hid (show (⟨(45 :: Lib.decDigits q).toArray⟩ ++ ⟨(Lib.decDigits d).toArray⟩ : ByteArray) = ⟨(45 :: Lib.decDigits u).toArray⟩ by rw [dig_app, dig_big hs, dig_small hd3, ← hq, ← hd]; rfl)
      rw [← hq] at IH
      have hu2 : q ≤ 99999 := by omega
      clear hq hd hs hl
      go_enter Tryd.func33, Tryd.ntmps33
      go_wp2_with fail
      go_at_call 33
      with_reducible refine (IH.out _).mono ?_
      rintro e w' ⟨rfl, m, rfl⟩
      go_wp2_with fail
      go_at_call 33
      with_reducible refine (NS.out _).mono ?_
      rintro e w' ⟨rfl, rfl⟩
      go_wp2
      go_ret
      exact ⟨congrArg (fun b => Ending.returned (Value.string b)) happ.out, m, rfl⟩
theorem num_any (z : Int) (h : -999999 ≤ z ∧ z ≤ 999999) (w : World) : Calls Tryd.prog 33 #[.int .i64 z] w fun e w' => e = .returned (.string ⟨(Lib.itoa z).toArray⟩) ∧ ∃ m, w' = w.drewN m := by
  unfold Lib.itoa
  by_cases hz : z < 0
  · rw [if_pos hz]
    obtain ⟨u, hu⟩ : ∃ u : Nat, z = -(u : Int) := ⟨z.natAbs, by omega⟩
    subst hu
    rw [show (-(u : Int)).natAbs = u by omega]
    exact num_neg u (by omega) (by omega) w
  · rw [if_neg hz]
    obtain ⟨u, hu⟩ := Int.eq_ofNat_of_zero_le (Int.not_lt.1 hz)
    subst hu
    rw [Int.toNat_natCast]
    exact num_nat u (by omega) w
end Go.Proofs.YthjfnfhadgmglaaDoor
