/- Plain: the decimal numeral, read back. -/
import Derived.Test.YthjfnfhadgmglaaDoorBase
import Derived.Lib.ItoaNum
import Derived.Lib.Atoi
import Derived.Lib.AtoiAll
import Derived.Lib.AtoiTie
set_option linter.unusedVariables false
set_option linter.unusedSimpArgs false
set_option linter.unusedSectionVars false
namespace Go.Proofs.YthjfnfhadgmglaaDoor
theorem digsP_small {d : Nat} (h : d < 10) : Lib.decDigits d = [UInt8.ofNat (48 + d)] := by rw [Lib.decDigits, dif_pos h]
theorem digsP_big {u : Nat} (h : ¬ u < 10) : Lib.decDigits u = Lib.decDigits (u / 10) ++ [UInt8.ofNat (48 + u % 10)] := by rw [Lib.decDigits, dif_neg h]
theorem digitVal_of {d : Nat} (h : d < 10) : Lib.digitVal (UInt8.ofNat (48 + d)) = some d := by
  have : (UInt8.ofNat (48 + d)).toNat = 48 + d := by simp; omega
  unfold Lib.digitVal
  rw [this, if_pos (by omega)]
  congr 1
  omega
theorem decFrom_snoc : ∀ (l : List UInt8) (acc n : Nat) (b : UInt8) (d : Nat), Lib.decFrom acc l = some n → Lib.digitVal b = some d → Lib.decFrom acc (l ++ [b]) = some (n * 10 + d)
  | [], acc, n, b, d, h, hb => by
    simp only [Lib.decFrom, Option.some.injEq] at h
    subst h
    simp [Lib.decFrom, hb]
  | a :: l, acc, n, b, d, h, hb => by
    simp only [List.cons_append, Lib.decFrom] at h ⊢
    cases q : Lib.digitVal a with
    | none => rw [q] at h; cases h
    | some e =>
      rw [q] at h
      exact decFrom_snoc l _ n b d h hb
theorem dec_digs (u : Nat) : Lib.decFrom 0 (Lib.decDigits u) = some u := by
  induction u using Nat.strongRecOn with
  | _ u ih =>
    by_cases h : u < 10
    · rw [digsP_small h, Lib.decFrom, digitVal_of h]
      simp [Lib.decFrom]
    · rw [digsP_big h, decFrom_snoc _ _ _ _ _ (ih (u / 10) (by omega)) (digitVal_of (by omega))]
      congr 1
      omega
theorem digs_all (u : Nat) : ∀ b ∈ Lib.decDigits u, 48 ≤ b.toNat ∧ b.toNat ≤ 57 := by
  induction u using Nat.strongRecOn with
  | _ u ih =>
    intro b hb
    by_cases h : u < 10
    · rw [digsP_small h] at hb
      simp only [List.mem_singleton] at hb
      subst hb
      simp
      omega
    · rw [digsP_big h, List.mem_append] at hb
      rcases hb with hb | hb
      · exact ih (u / 10) (by omega) b hb
      · simp only [List.mem_singleton] at hb
        subst hb
        have := Nat.mod_lt u (show 10 > 0 by omega)
        simp
        omega
theorem digs_len : ∀ k u, 1 ≤ k → u < 10 ^ k → (Lib.decDigits u).length ≤ k
  | 0, _, h, _ => by omega
  | k + 1, u, _, h => by
    by_cases hs : u < 10
    · rw [digsP_small hs]; simp
    · rw [digsP_big hs, List.length_append]
      have hk : 1 ≤ k := by
        by_cases e : k = 0
        · subst e; simp at h; omega
        · omega
      have := digs_len k (u / 10) hk (by rw [Nat.pow_succ] at h; omega)
      simp
      omega
theorem digs_pos (u : Nat) : 1 ≤ (Lib.decDigits u).length := by
  by_cases hs : u < 10
  · rw [digsP_small hs]; simp
  · rw [digsP_big hs]; simp
/-- The text is the numeral of v, and v is not too great. -/
def Dec (s : ByteArray) (v : Int) : Prop := -999999 ≤ v ∧ v ≤ 999999 ∧ (⟨(Lib.itoa v).toArray⟩ : ByteArray) = s
theorem dec_list {s : ByteArray} {v : Int} (h : Dec s v) : s.data.toList = Lib.itoa v := by
  rw [← h.2.2]
theorem parse_digs (u : Nat) (h : u ≤ 999999) : Lib.parseMag (Lib.decDigits u) = .ok u := by
  have hl := digs_len 6 u (by omega) (by omega)
  have hp := digs_pos u
  unfold Lib.parseMag
  rw [if_neg (fun e => by rw [e] at hp; simp at hp), Lib.parseUint10_short _ 0 0 (by omega) (by omega), dec_digs]
  rfl
theorem digs_cons (u : Nat) : ∃ c r, Lib.decDigits u = c :: r ∧ 48 ≤ c.toNat ∧ c.toNat ≤ 57 := by
  have hp := digs_pos u
  cases e : Lib.decDigits u with
  | nil => rw [e] at hp; simp at hp
  | cons c r => exact ⟨c, r, rfl, digs_all u c (by rw [e]; simp)⟩
theorem atoi_dec {s : ByteArray} {v : Int} (h : Dec s v) : Lib.atoiAll s.data.toList = .ok v := by
  rw [dec_list h]
  obtain ⟨h1, h2, _⟩ := h
  unfold Lib.itoa
  by_cases hz : v < 0
  · rw [if_pos hz]
    unfold Lib.atoiAll
    have e1 : (45 : UInt8).toNat = 45 := rfl
    simp only [e1, or_true, if_true]
    rw [parse_digs _ (by omega)]
    simp only [not_true_eq_false, false_and, if_false, true_and]
    rw [if_neg (by omega)]
    congr 1
    omega
  · rw [if_neg hz]
    obtain ⟨c, r, hc, hc1, hc2⟩ := digs_cons v.toNat
    have hp := parse_digs v.toNat (by omega)
    rw [hc] at hp ⊢
    unfold Lib.atoiAll
    have e1 : ¬ (c.toNat = 43 ∨ c.toNat = 45) := by omega
    have e2 : ¬ (c.toNat = 45) := by omega
    simp only []
    rw [if_neg e1, hp]
    simp only [e2, not_false_eq_true, true_and, false_and, if_false]
    rw [if_neg (by omega), Int.toNat_of_nonneg (by omega)]
theorem dec_unique {s : ByteArray} {v u : Int} (h : Dec s v) (h' : Dec s u) : v = u := by
  have := (atoi_dec h).symm.trans (atoi_dec h')
  injection this
open Classical in
/-- The number that a text is the numeral of, or 0. -/
noncomputable def rdV (s : ByteArray) : Int := if h : ∃ v, Dec s v then h.choose else 0
open Classical in
noncomputable def rdB (s : ByteArray) : Bool := decide (∃ v, Dec s v)
open Classical in
theorem rd_yes {s : ByteArray} {v : Int} (h : Dec s v) : rdV s = v ∧ rdB s = true := by
  have e : ∃ v, Dec s v := ⟨v, h⟩
  unfold rdV rdB
  rw [dif_pos e]
  exact ⟨dec_unique e.choose_spec h, decide_eq_true e⟩
open Classical in
theorem rd_no {s : ByteArray} (h : ¬ ∃ v, Dec s v) : rdV s = 0 ∧ rdB s = false := by
  unfold rdV rdB
  rw [dif_neg h]
  exact ⟨rfl, decide_eq_false h⟩
open Classical in
theorem rd_get {s : ByteArray} (h : rdB s = true) : Dec s (rdV s) := by
  unfold rdB at h
  obtain ⟨v, hv⟩ := of_decide_eq_true h
  rw [(rd_yes hv).1]
  exact hv
end Go.Proofs.YthjfnfhadgmglaaDoor
