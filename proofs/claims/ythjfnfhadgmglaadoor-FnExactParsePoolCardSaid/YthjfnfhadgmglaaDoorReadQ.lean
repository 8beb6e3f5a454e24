/- Plain: how the reference reads a numeral: the sign taken off, then the digits. -/
import Derived.Test.YthjfnfhadgmglaaDoorReadP
set_option linter.unusedVariables false
set_option linter.unusedSimpArgs false
set_option linter.unusedSectionVars false
namespace Go.Proofs.YthjfnfhadgmglaaDoor
/-- t is what is left of s behind a sign; ng: there is one. -/
def Tl (s t : ByteArray) (ng : Bool) : Prop := (ng = true ∧ 1 < s.size ∧ s.data.toList = 45 :: t.data.toList) ∨ (ng = false ∧ t = s ∧ ¬ (1 < s.size ∧ s.data.toList[0]? = some 45))
def sgn (ng : Bool) (n : Nat) : Int := if ng then -(n : Int) else n
theorem dec_tl {s t : ByteArray} {ng : Bool} {v : Int} (hT : Tl s t ng) (h : Dec s v) : ∃ u : Nat, u ≤ 999999 ∧ t.data.toList = Lib.decDigits u ∧ v = sgn ng u := by
  have hl := dec_list h
  obtain ⟨h1, h2, _⟩ := h
  unfold Lib.itoa at hl
  rcases hT with ⟨rfl, h3, h4⟩ | ⟨rfl, rfl, h4⟩
  · by_cases hz : v < 0
    · rw [if_pos hz, h4] at hl
      exact ⟨v.natAbs, by omega, (List.cons.inj hl).2, by simp only [sgn, if_true]; omega⟩
    · rw [if_neg hz, h4] at hl
      obtain ⟨c, r, hc, hc1, _⟩ := digs_cons v.toNat
      rw [hc] at hl
      have := (List.cons.inj hl).1
      rw [← this] at hc1
      exact absurd hc1 (by decide)
  · by_cases hz : v < 0
    · rw [if_pos hz] at hl
      exfalso
      apply h4
      have := digs_pos v.natAbs
      refine ⟨?_, by rw [hl]; rfl⟩
      have h5 := congrArg List.length hl
      simp only [List.length_cons] at h5
      have : t.data.toList.length = t.size := by simp
      omega
    · rw [if_neg hz] at hl
      exact ⟨v.toNat, by omega, hl, by simp only [sgn]; rw [if_neg (by decide)]; omega⟩
theorem tl_len {s t : ByteArray} {ng : Bool} (hT : Tl s t ng) (h : ¬ (1 ≤ t.size ∧ t.size ≤ 6)) : rdV s = 0 ∧ rdB s = false := rd_no fun ⟨v, hv⟩ => by
  obtain ⟨u, h1, h2, _⟩ := dec_tl hT hv
  apply h
  have h3 := digs_len 6 u (by omega) (by omega)
  have h4 := digs_pos u
  rw [← h2] at h3 h4
  have : t.data.toList.length = t.size := by simp
  omega
theorem tl_byte {s t : ByteArray} {ng : Bool} (hT : Tl s t ng) {k : Nat} (hk : k < t.size) (h : ¬ (48 ≤ (t[k]'hk).toNat ∧ (t[k]'hk).toNat ≤ 57)) : rdV s = 0 ∧ rdB s = false := rd_no fun ⟨v, hv⟩ => by
  obtain ⟨u, h1, h2, _⟩ := dec_tl hT hv
  apply h
  apply digs_all u
  rw [← h2]
  exact List.mem_iff_getElem.2 ⟨k, by simpa using hk, rfl⟩
theorem tl_end {s t : ByteArray} {ng : Bool} (hT : Tl s t ng) {n : Nat} (hn : n ≤ 999999) (hd : Lib.decFrom 0 t.data.toList = some n) :
    ((⟨(Lib.itoa (sgn ng n)).toArray⟩ : ByteArray) = s → rdV s = sgn ng n ∧ rdB s = true) ∧ ((⟨(Lib.itoa (sgn ng n)).toArray⟩ : ByteArray) ≠ s → rdV s = 0 ∧ rdB s = false) := by
  constructor
  · intro e
    refine rd_yes ⟨?_, ?_, e⟩ <;> · unfold sgn; split <;> omega
  · intro e
    refine rd_no fun ⟨v, hv⟩ => e ?_
    obtain ⟨u, h1, h2, h3⟩ := dec_tl hT hv
    rw [h2, dec_digs] at hd
    obtain rfl := Option.some.inj hd
    rw [← h3]
    exact hv.2.2
theorem dec_bd {l : List UInt8} {n k : Nat} (h : Lib.decFrom 0 l = some n) (hl : l.length ≤ k) (hk : k ≤ 6) : n ≤ 999999 := by
  have h1 := Lib.decFrom_lt l 0 n h
  have h2 : 10 ^ l.length ≤ 10 ^ 6 := Nat.pow_le_pow_right (by omega) (by omega)
  omega
theorem dec_next {t : ByteArray} {k n d : Nat} (hk : k < t.size) (h : Lib.decFrom 0 (t.data.toList.take k) = some n) (hd : (t[k]'hk).toNat = 48 + d) (h9 : d ≤ 9) : Lib.decFrom 0 (t.data.toList.take (k + 1)) = some (10 * n + d) := by
  have hb : t.data.toList[k]? = some (t[k]'hk) := by
    rw [List.getElem?_eq_getElem (by simpa using hk)]
    rfl
  rw [Lib.decFrom_take t.data.toList k 0 n (t[k]'hk) d h hb (by unfold Lib.digitVal; rw [hd, if_pos (by omega)]; congr 1; omega)]
  congr 1
  omega
end Go.Proofs.YthjfnfhadgmglaaDoor
