/- Plain: texts joined, as a loop does it and as the library's Join does it. -/
import Derived.Test.YthjfnfhadgmglaaDoorBase
import Derived.Lib.Join
set_option linter.unusedVariables false
set_option linter.unusedSimpArgs false
set_option linter.unusedSectionVars false
namespace Go.Proofs.YthjfnfhadgmglaaDoor
/-- The first k texts, joined; and with the sign behind them where one more follows. -/
def jnM (x : Nat → ByteArray) (sep : ByteArray) : Nat → ByteArray
  | 0 => ⟨#[]⟩
  | k + 1 => (jnM x sep k ++ x k) ++ sep
def jn (x : Nat → ByteArray) (sep : ByteArray) : Nat → ByteArray
  | 0 => ⟨#[]⟩
  | k + 1 => jnM x sep k ++ x k
theorem jnM_pos (x : Nat → ByteArray) (sep : ByteArray) {k : Nat} (h : 0 < k) : jnM x sep k = jn x sep k ++ sep := by
  cases k with
  | zero => omega
  | succ k => rfl
theorem joinTail_snoc (sep : List UInt8) (r : List (List UInt8)) (y : List UInt8) : Lib.joinTail sep (r ++ [y]) = Lib.joinTail sep r ++ (sep ++ y) := by simp [Lib.joinTail]
theorem join_snoc (xs : List (List UInt8)) (sep y : List UInt8) (h : xs ≠ []) : Lib.join (xs ++ [y]) sep = Lib.join xs sep ++ sep ++ y := by
  cases xs with
  | nil => exact absurd rfl h
  | cons a r => rw [List.cons_append, Lib.join_cons, Lib.join_cons, joinTail_snoc]; simp
/-- The first n texts, as a list. -/
def txts (x : Nat → ByteArray) (n : Nat) : List ByteArray := (List.range n).map x
theorem txts_len (x : Nat → ByteArray) (n : Nat) : (txts x n).length = n := by simp [txts]
theorem txts_get (x : Nat → ByteArray) {n j : Nat} {v : ByteArray} (h : (txts x n)[j]? = some v) : j < n ∧ v = x j := by
  have hj : j < n := by
    by_cases c : j < n
    · exact c
    · rw [List.getElem?_eq_none (by rw [txts_len]; omega)] at h; cases h
  refine ⟨hj, ?_⟩
  simp [txts, hj] at h
  exact h.symm
theorem txts_snoc (x : Nat → ByteArray) (n : Nat) : txts x (n + 1) = txts x n ++ [x n] := by simp [txts, List.range_succ]
theorem jn_lib (x : Nat → ByteArray) (sep : ByteArray) : ∀ n, (Lib.join ((txts x n).map (·.data.toList)) sep.data.toList) = (jn x sep n).data.toList
  | 0 => rfl
  | 1 => by
    show Lib.join [(x 0).data.toList] sep.data.toList = ((⟨#[]⟩ : ByteArray) ++ x 0).data.toList
    rw [Lib.join_one, ByteArray.data_append]
    simp
  | n + 2 => by
    have ih := jn_lib x sep (n + 1)
    have hne : (txts x (n + 1)).map (·.data.toList) ≠ [] := fun e => by
      have := congrArg List.length e
      simp [txts_len] at this
    rw [txts_snoc, List.map_append, List.map_cons, List.map_nil, join_snoc _ _ _ hne, ih]
    show _ = (((jnM x sep n ++ x n) ++ sep) ++ x (n + 1)).data.toList
    rw [ByteArray.data_append, ByteArray.data_append]
    simp [jn]
theorem jn_bytes (x : Nat → ByteArray) (sep : ByteArray) (n : Nat) : (⟨(Lib.join ((txts x n).map (·.data.toList)) sep.data.toList).toArray⟩ : ByteArray) = jn x sep n := by
  rw [jn_lib]
/-- How many bytes the first k texts have. -/
def szs (x : Nat → ByteArray) : Nat → Nat
  | 0 => 0
  | k + 1 => szs x k + (x k).size
theorem szs_mono (x : Nat → ByteArray) {k n : Nat} (h : k ≤ n) : szs x k ≤ szs x n := by
  induction n with
  | zero => obtain rfl : k = 0 := by omega
            exact Nat.le_refl _
  | succ n ih =>
    by_cases e : k = n + 1
    · subst e; exact Nat.le_refl _
    · have := ih (by omega); simp only [szs]; omega
theorem jnM_size (x : Nat → ByteArray) {sep : ByteArray} (hs : sep.size = 1) : ∀ k, (jnM x sep k).size = szs x k + k
  | 0 => rfl
  | k + 1 => by
    simp only [jnM, szs, ByteArray.size_append, hs, jnM_size x hs k]
    omega
theorem jn_size (x : Nat → ByteArray) {sep : ByteArray} (hs : sep.size = 1) : ∀ k, (jn x sep k).size = szs x k + (k - 1)
  | 0 => rfl
  | k + 1 => by
    simp only [jn, szs, ByteArray.size_append, jnM_size x hs k]
    omega
end Go.Proofs.YthjfnfhadgmglaaDoor
