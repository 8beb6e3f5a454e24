/- The library's contract of slices.Compact at this translation, laid by the kit's tool in plain words, and what it comes to here. Seat R alone: the numbers are its own. -/
import Derived.Shelf.Slices.CompactI
import Derived.Shelf.Slices.Cells
import Derived.Ground.Names2Prog
import Derived.Test.YtlgpejiepogopaaProg
import Derived.Test.YtlgpejiepogopaaInts
import Derived.Test.YtlgpejiepogopaaBase
set_option linter.unusedVariables false
set_option linter.unusedSimpArgs false
set_option linter.unusedSectionVars false
namespace Go.Proofs
open Go.Shelf
def Try.laysNm220_ren : Go.Shelf.Ren := ⟨fun | 20 => 110 | n => n, fun | 22 => 77 | 3 => 3 | 4 => 4 | 0 => 0 | n => n, fun | n => n⟩
theorem Try.laysNm220 : Go.Proofs.Lays2.n20 Try.prog Try.laysNm220_ren := {
  mixed := by kernel_rfl
  f20 := Try.func110.trans (congrArg some (by kernel_rfl))
  t0 := Try.underlying0
  a0 := Try.isAgg0
  z0 := Try.sizeOf0
  v0 := Try.zeroValue0
  t3 := Try.underlying3
  a3 := Try.isAgg3
  z3 := Try.sizeOf3
  v3 := Try.zeroValue3
  t4 := Try.underlying4
  a4 := Try.isAgg4
  z4 := Try.sizeOf4
  v4 := Try.zeroValue4
  t22 := Try.underlying77
  a22 := Try.isAgg77
  z22 := Try.sizeOf77
  v22 := Try.zeroValue77
  i3 := by kernel_rfl }
open Go.RowKit Go.Lib Go.Sort in
/-- slices.Compact at []int, of an argument: the slice cut to 'Lib.compact (elements)'; the n cells hold that, then zeros. (LAID: no walk: one application.) -/
theorem Try.slices_Compact_int_cells (b off n c : Nat) (zs : List Int) (w : World) (hz : n ≤ zs.length) (hbig : n ≤ 9223372036854775807) (hcap : n ≤ c) (hc : ∀ j, j < zs.length → w.cell? ⟨b, off + j, none⟩ = some (.int .i64 (zs.getD j 0))) (hf : ∀ j, j < n → w.frozen? ⟨b, off + j, none⟩ = false) :
    Calls Try.prog 110 #[.slice (some ⟨b, off, none⟩) n c] w fun e w' => e = .returned (.slice (some ⟨b, off, none⟩) (Lib.compact (zs.take n)).length c) ∧ ∃ q, w' = (w.drewN q).setCells b off ((Lib.compact (zs.take n) ++ List.replicate (n - (Lib.compact (zs.take n)).length) 0).map (Value.int .i64)) := Any.slices_Compact_int_cells Try.laysNm220 b off n c zs w hz hbig hcap hc hf
end Go.Proofs
namespace Go.Proofs.Ytlgpejiepogopaa
open Go.RowKit Go.Lib
theorem grown_setCells {w : World} {g : Nat} : ∀ (vs : List Value) (o : Nat) (w' : World), w.grownBy w' (some g) → w.grownBy (w'.setCells g o vs) (some g)
  | [], _, _, h => h
  | v :: r, o, _, h => grown_setCells r (o + 1) _ (grown_set h o v)
/-- How many runs of equal numbers the first k hold. -/
def runN (f : Nat → Int) : Nat → Nat
  | 0 => 0
  | k + 1 => runN f k + (if k = 0 ∨ f k ≠ f (k - 1) then 1 else 0)
theorem runN_le (f : Nat → Int) : ∀ k, runN f k ≤ k
  | 0 => Nat.le_refl _
  | k + 1 => by have := runN_le f k; simp only [runN]; split <;> omega
theorem list_at (r : Nat → Int) (n j : Nat) (h : j < n) : ((List.range n).map r).toArray[j]! = r j := by simp [h]
theorem compact_len (r : Nat → Int) (n : Nat) : ∀ m, m ≤ n → (compactUpTo ((List.range n).map r).toArray m).length = runN r m
  | 0, _ => by simp [compactUpTo, runN]
  | m + 1, h => by
    rw [compactUpTo_succ, List.length_append, compact_len r n m (by omega)]
    simp only [runN]
    congr 1
    unfold keeps
    rw [list_at r n m (by omega)]
    by_cases e : m = 0
    · subst e; simp
    · rw [list_at r n (m - 1) (by omega)]
      by_cases q : r m = r (m - 1)
      · simp [e, q]
      · simp [e, q]
theorem compact_any (rb n : Nat) (r : Nat → Int) (hn : n ≤ 12) (w : World) (hA : Blk w rb n 3 (I r)) : Calls Try.prog 110 #[.slice (some ⟨rb, 0, none⟩) n n] w fun e w' => e = .returned (.slice (some ⟨rb, 0, none⟩) (runN r n) n) ∧ w.grownBy w' (some rb) := by
  have h := Try.slices_Compact_int_cells rb 0 n n ((List.range n).map r) w (by simp) (by omega) (Nat.le_refl _) (fun j hj => by
    have hj2 : j < n := by simpa using hj
    rw [Nat.zero_add, hA.cell hj2]
    simp [I, hj2]) (fun j _ => hA.free _)
  have e : (Lib.compact (((List.range n).map r).take n)).length = runN r n := by
    rw [List.take_of_length_le (by simp)]
    unfold Lib.compact
    rw [show ((List.range n).map r).length = n by simp]
    exact compact_len r n n (Nat.le_refl _)
  rw [e] at h
  refine h.mono ?_
  rintro e w' ⟨rfl, q, rfl⟩
  exact ⟨rfl, grown_setCells _ _ _ ⟨rfl, rfl, rfl, Nat.le_refl _, fun _ _ _ => rfl⟩⟩
end Go.Proofs.Ytlgpejiepogopaa
