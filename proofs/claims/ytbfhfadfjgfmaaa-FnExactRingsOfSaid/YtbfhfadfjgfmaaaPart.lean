/- A part of a row read and written as one value: an element of a slice of arrays, a field of a struct of arrays. -/
import Derived.Test.YtbfhfadfjgfmaaaBase
import Derived.Laws.CopyRow
set_option linter.unusedVariables false
set_option linter.unusedSimpArgs false
set_option linter.unusedSectionVars false
namespace Go.Proofs.Ytbfhfadfjgfmaaa
open Go.RowKit
/-- f, but q in n places from off on. -/
def splice (f : Nat → Value) (off n : Nat) (q : Nat → Value) : Nat → Value := fun i => if off ≤ i ∧ i < off + n then q (i - off) else f i
theorem addr_add (b o j : Nat) : (⟨b, o, none⟩ : Addr).add j = ⟨b, o + j, none⟩ := by unfold Addr.add; split <;> simp_all
section
variable {P : Program} {w : World} {b N off n : Nat} {T ty : TypeId} {f q : Nat → Value}
theorem run_loadVar_part (hb : Blk w b N T f) (ho : off + n ≤ N) (ha : ∀ w, (isAgg ty).run P w = .ok true w) (hi : (P.info? ty).map (·.size) = some n) : (loadVar ty ⟨b, off, none⟩).run P w = .ok (.agg (row n fun i => f (off + i))) w := by
  have hl : (loadCells ⟨b, off, none⟩ ((List.range n).map fun i => f (off + i)).length).run P w = .ok ((List.range n).map fun i => f (off + i)).toArray w :=
    run_loadCells_list (P := P) w ⟨b, off, none⟩ _ (fun j v hv => by
      rw [List.getElem?_map] at hv
      have hj : j < n := by
        by_cases h : j < n
        · exact h
        · rw [List.getElem?_eq_none (by simp; omega)] at hv; cases hv
      rw [List.getElem?_range hj] at hv
      rw [addr_add, hb.cell (by omega)]
      exact hv)
  cases hq : P.info? ty with
  | none => simp [hq] at hi
  | some i =>
    have hs : i.size = n := by simpa [hq] using hi
    simp only [List.length_map, List.length_range] at hl
    simp [loadVar, Sem.run_bind, ha, sizeOf, typeInfo, hq, hs, hl, row]
theorem run_storeVar_part (hb : Blk w b N T f) (ho : off + n ≤ N) (hi : (P.info? ty).map (·.size) = some n) (h1 : ∀ i, i < n → (q i).oneCell' = true) :
    (storeVar ty ⟨b, off, none⟩ (.agg (row n q))).run P w = .ok () (w.setRow b (row N (splice f off n q))) := by
  have h := run_storeCells_at (P := P) b off T ((List.range n).map q) 0 (row N f) w hb (by simp [row_size]; exact ho) (fun v hv => by
    obtain ⟨i, hi, rfl⟩ := List.mem_map.1 hv
    exact h1 i (List.mem_range.1 hi))
  have e : ((row N f).toList.take (off + 0) ++ (List.range n).map q ++ (row N f).toList.drop (off + 0 + ((List.range n).map q).length)).toArray = row N (splice f off n q) := by
    unfold row
    congr 1
    apply List.ext_getElem?
    intro i
    simp only [Nat.add_zero, List.length_map, List.length_range]
    by_cases hi : i < off
    · rw [List.append_assoc, List.getElem?_append_left (by simp; omega), List.getElem?_take_of_lt hi]
      simp only [List.getElem?_map]
      rw [List.getElem?_range (by omega)]
      simp [splice, show ¬ off ≤ i by omega]
    · by_cases hi2 : i < off + n
      · rw [List.getElem?_append_left (by simp; omega), List.getElem?_append_right (by simp; omega)]
        simp only [List.length_take, List.length_map, List.length_range, List.getElem?_map]
        rw [Nat.min_eq_left (by omega), List.getElem?_range (by omega), List.getElem?_range (by omega)]
        simp [splice, show off ≤ i by omega, hi2]
      · rw [List.getElem?_append_right (by simp; omega), List.getElem?_drop]
        simp only [List.length_append, List.length_take, List.length_map, List.length_range, List.getElem?_map]
        rw [Nat.min_eq_left (by omega), show off + n + (i - (off + n)) = i by omega]
        by_cases hi3 : i < N
        · rw [List.getElem?_range hi3]; simp [splice, hi2]
        · rw [List.getElem?_eq_none (by simp; omega)]; rfl
  rw [e] at h
  cases hq : P.info? ty with
  | none => simp [hq] at hi
  | some i =>
    have hs : n = i.size := by simp [hq] at hi; omega
    have h' : (storeCells ⟨b, off, none⟩ (row n q).toList).run P w = .ok () (w.setRow b (row N (splice f off n q))) := h
    subst hs
    simp [storeVar, sizeOf, typeInfo, hq, Value.cells, row_size, h']
theorem wpList_load_part {ops : Array Oper} {rest : List Oper} {o : Oper} {a : Act} {Q : Exit → Act → World → Prop} (hw : Region.wanted o (yielded ops a.tmps) = true) (ty : TypeId) (x : Operand) (ho : o.op = .load ty x)
    (hb : Blk w b N T f) (hx : a.eval x = .pointer (some ⟨b, off, none⟩)) (hn : off + n ≤ N) (ha : ∀ w, (isAgg ty).run P w = .ok true w) (hi : (P.info? ty).map (·.size) = some n) {g : Nat → Value} (hg : ∀ i, i < n → f (off + i) = g i)
    (h : wpList P ops Q rest (a.put o.dst (.agg (row n g))) w) : wpList P ops Q (o :: rest) a w := by
  unfold wpList
  rw [if_pos hw]
  left
  unfold Oper.wp execOp
  simp only [ho, hx, Instr.loadAt, Instr.sureAddr, Sem.run_bind, Sem.run_pure, Result.andThen_ok, run_loadVar_part hb hn ha hi, row_ext hg]
  exact h
theorem wpList_store_part {ops : Array Oper} {rest : List Oper} {o : Oper} {a : Act} {Q : Exit → Act → World → Prop} (hw : Region.wanted o (yielded ops a.tmps) = true) (ty : TypeId) (x y : Operand) (ho : o.op = .store ty x y)
    (hb : Blk w b N T f) (hx : a.eval x = .pointer (some ⟨b, off, none⟩)) (hy : a.eval y = .agg (row n q)) (hn : off + n ≤ N) (hi : (P.info? ty).map (·.size) = some n) (h1 : ∀ i, i < n → (q i).oneCell' = true)
    (h : wpList P ops Q rest (a.put o.dst undef) (w.setRow b (row N (splice f off n q)))) : wpList P ops Q (o :: rest) a w := by
  unfold wpList
  rw [if_pos hw]
  left
  unfold Oper.wp execOp
  simp only [ho, hx, hy, Instr.storeAt, Instr.sureAddr, Sem.run_bind, Sem.run_pure, Result.andThen_ok, run_storeVar_part hb hn hi h1]
  exact h
theorem grown_load_part {o : Oper} {a : Act} {w0 : World} {K : Act → Prop} (ty : TypeId) (x : Operand) (ho : o.op = .load ty x)
    (hb : Blk w0 b N T f) (hx : a.eval x = .pointer (some ⟨b, off, none⟩)) (hn : off + n ≤ N) (ha : ∀ w, (isAgg ty).run P w = .ok true w) (hi : (P.info? ty).map (·.size) = some n) {g : Nat → Value} (hg : ∀ i, i < n → f (off + i) = g i)
    (hk : K (a.put o.dst (.agg (row n g)))) : o.quiet P a (Grew w0) K := by
  refine ⟨_, fun w hw => ?_, hk⟩
  have hl := run_loadVar_part (P := P) (hb.below hw hb.lt) hn ha hi
  unfold Oper.quietAt execOp
  simp only [ho, hx, Instr.loadAt, Instr.sureAddr, Sem.run_bind, Sem.run_pure, Result.andThen_ok, hl, row_ext hg]
  exact ⟨rfl, rfl⟩
/-- The function hands back the aggregate that lies in a block (and a plain value). -/
theorem post_agg {fn : Func} {R : Ending → World → Prop} {a : Act} {p : Tmp} (h : fn.results = #[.cell p ty]) (hb : Blk w b N T f) (hp : a.tmps.getD p undef = .pointer (some ⟨b, 0, none⟩)) (ha : ∀ w, (isAgg ty).run P w = .ok true w) (hi : (P.info? ty).map (·.size) = some N) (hd : a.defers = [])
    (hR : R (.returned (.agg (row N f))) w) : bodyPost P fn R .ret a w := by
  have hl := run_loadVar_part (P := P) (off := 0) hb (by omega) ha hi
  have e : (row N fun i => f (0 + i)) = row N f := row_ext fun i _ => by rw [Nat.zero_add]
  rw [e] at hl
  refine bodyPost_ret (v := .agg (row N f)) ?_ hd hR
  have hp' : a.tmps[p]?.getD undef = .pointer (some ⟨b, 0, none⟩) := by simpa using hp
  simp [results, h, hp', asAddr, hl]
theorem post_agg_tmp {fn : Func} {R : Ending → World → Prop} {a : Act} {p u : Tmp} (h : fn.results = #[.cell p ty, .tmp u]) (hb : Blk w b N T f) (hp : a.tmps.getD p undef = .pointer (some ⟨b, 0, none⟩)) (ha : ∀ w, (isAgg ty).run P w = .ok true w) (hi : (P.info? ty).map (·.size) = some N) (hd : a.defers = [])
    (hR : R (.returned (.tuple #[.agg (row N f), a.tmps.getD u undef])) w) : bodyPost P fn R .ret a w := by
  have hl := run_loadVar_part (P := P) (off := 0) hb (by omega) ha hi
  have e : (row N fun i => f (0 + i)) = row N f := row_ext fun i _ => by rw [Nat.zero_add]
  rw [e] at hl
  refine bodyPost_ret ?_ hd hR
  rw [results_cell_tmp h, hp]
  simp only [asAddr, Sem.run_pure, Result.andThen_ok, hl]
end
end Go.Proofs.Ytbfhfadfjgfmaaa
