/- Plain words on rows of cells, used by every text of this seat. -/
import Derived.WalkKit
import Derived.Laws.Rows
import Derived.Deep.WholeRow
import Derived.Deep.Quiet
import Derived.Deep.QuietTactic
import Derived.BigQuiet
import Derived.Laws.ResultCell
import Derived.Lib.Hide
set_option linter.unusedVariables false
set_option linter.unusedSimpArgs false
set_option linter.unusedSectionVars false
namespace Go.Proofs.Ytbfhfadfjgfmaaa
open Go.RowKit

theorem ne01 (n : Nat) : n ≠ n + 1 := by omega
theorem ne10 (n : Nat) : n + 1 ≠ n := by omega
theorem ne02 (n : Nat) : n ≠ n + 1 + 1 := by omega
theorem ne20 (n : Nat) : n + 1 + 1 ≠ n := by omega
/-- A row of n values. -/
def row (n : Nat) (f : Nat → Value) : Array Value := ((List.range n).map f).toArray
/-- Ints as values. -/
def I (g : Nat → Int) : Nat → Value := fun i => .int .i64 (g i)
def upd {α : Type} (f : Nat → α) (i : Nat) (v : α) : Nat → α := fun j => if j = i then v else f j
theorem row_size (n : Nat) (f : Nat → Value) : (row n f).size = n := by simp [row]
theorem row_get {n : Nat} {f : Nat → Value} {i : Nat} (h : i < n) : (row n f)[i]? = some (f i) := by
  simp [row, h]
theorem row_ext {n : Nat} {f g : Nat → Value} (h : ∀ i, i < n → f i = g i) : row n f = row n g := by
  unfold row; congr 1; apply List.map_congr_left; intro a ha; exact h a (List.mem_range.1 ha)
theorem row_set {n : Nat} {f : Nat → Value} {i : Nat} (v : Value) (h : i < n) : (row n f).setIfInBounds i v = row n (upd f i v) := by
  unfold row
  rw [List.setIfInBounds_toArray]
  congr 1
  apply List.ext_getElem
  · simp
  · intro j h1 h2
    rw [List.getElem_set]
    simp only [List.getElem_map, List.getElem_range, upd]
    by_cases e : i = j
    · subst e; simp
    · rw [if_neg e, if_neg (fun h => e h.symm)]
theorem I_upd (g : Nat → Int) (i : Nat) (x : Int) : upd (I g) i (.int .i64 x) = I (upd g i x) := by
  funext j; simp only [upd, I]; split <;> rfl

/-- Block b of the world is a row of n cells that hold f. -/
def Blk (w : World) (b n : Nat) (T : TypeId) (f : Nat → Value) : Prop := w.heap[b]? = some (.cells (row n f) T (0, 0))

namespace Blk
theorem ext {w : World} {b n : Nat} {T : TypeId} {f g : Nat → Value} (h : Blk w b n T f) (e : ∀ i, i < n → f i = g i) : Blk w b n T g := by
  unfold Blk at *; rw [h, row_ext e]
theorem cell {w : World} {b n : Nat} {T : TypeId} {f : Nat → Value} (h : Blk w b n T f) {i : Nat} (hi : i < n) : w.cell? ⟨b, i, none⟩ = some (f i) := by
  rw [cell_of_row w b i _ T (0, 0) h]; exact row_get hi
theorem free {w : World} {b n : Nat} {T : TypeId} {f : Nat → Value} (h : Blk w b n T f) (i : Nat) : w.frozen? ⟨b, i, none⟩ = false := frozen_of_row w b i _ T h
theorem lt {w : World} {b n : Nat} {T : TypeId} {f : Nat → Value} (h : Blk w b n T f) : b < w.heap.size := by
  unfold Blk at h
  by_cases hb : b < w.heap.size
  · exact hb
  · rw [Array.getElem?_eq_none (by omega)] at h; cases h
theorem new (w : World) (n : Nat) (T : TypeId) (f : Nat → Value) : Blk (w.alloc (.cells (row n f) T)) w.heap.size n T f := heap_alloc_new _ _
theorem newAt {w : World} {b n : Nat} {T : TypeId} {f : Nat → Value} {cs : Array Value} (hb : w.heap.size = b) (hcs : row n f = cs) : Blk (w.alloc (.cells cs T)) b n T f := by
  subst hb; subst hcs; exact Blk.new _ _ _ _
theorem newS {w : World} {b n : Nat} {T : TypeId} {f : Nat → Value} (hb : w.heap.size = b) : Blk (w.alloc (.cells (row n f) T)) b n T f := by
  subst hb; exact Blk.new _ _ _ _
theorem alloc {w : World} {b n : Nat} {T : TypeId} {f : Nat → Value} (h : Blk w b n T f) (o : Obj) : Blk (w.alloc o) b n T f := by
  have := h.lt
  unfold Blk at *; rw [Go.heap_alloc_old _ _ this]; exact h
theorem drew {w : World} {b n : Nat} {T : TypeId} {f : Nat → Value} (h : Blk w b n T f) : Blk w.drew b n T f := h
theorem drewN {w : World} {b n : Nat} {T : TypeId} {f : Nat → Value} (h : Blk w b n T f) (m : Nat) : Blk (w.drewN m) b n T f := h
theorem set {w : World} {b n : Nat} {T : TypeId} {f : Nat → Value} (h : Blk w b n T f) {i : Nat} (hi : i < n) (v : Value) : Blk (w.setCell ⟨b, i, none⟩ v) b n T (upd f i v) := by
  unfold Blk at *; rw [← row_set v hi]; exact heap_setCell_same w b i _ T v h
theorem other {w : World} {b n : Nat} {T : TypeId} {f : Nat → Value} (h : Blk w b n T f) (a : Addr) (v : Value) (hb : b ≠ a.block) : Blk (w.setCell a v) b n T f := by
  unfold Blk at *; rw [heap_setCell_other w a b v hb]; exact h
theorem setRow {w : World} {b n : Nat} {T : TypeId} {f : Nat → Value} (h : Blk w b n T f) (g : Nat → Value) : Blk (w.setRow b (row n g)) b n T g := setRow_heap w b _ _ T (0, 0) h
theorem setRowNew {w : World} {k n : Nat} {T : TypeId} {f g : Nat → Value} (e : w.heap.size = k) : Blk ((w.alloc (.cells (row n f) T)).setRow k (row n g)) k n T g := by
  subst e; exact (Blk.new w n T f).setRow g
theorem setRowOther {w : World} {b n : Nat} {T : TypeId} {f : Nat → Value} (h : Blk w b n T f) (k : Nat) (cs : Array Value) (hk : b ≠ k) : Blk (w.setRow k cs) b n T f := by
  unfold Blk at *; rw [setRow_other w k b cs hk]; exact h
theorem below {w w' : World} {b n B : Nat} {T : TypeId} {f : Nat → Value} (h : Blk w b n T f) (hb : Below B w w') (hB : b < B) : Blk w' b n T f := by
  unfold Blk at *; rw [hb.block b hB]; exact h
end Blk

theorem below_drewN {B : Nat} {a w : World} (h : Below B a w) (m : Nat) : Below B a (w.drewN m) := ⟨h.os, h.tape, h.output, h.size, h.block⟩
theorem below_setRow {B : Nat} {a w : World} (h : Below B a w) {g : Nat} (hg : B ≤ g) (cs : Array Value) : Below B a (w.setRow g cs) :=
  h.trans ⟨rfl, rfl, rfl, by simp, fun k hk => setRow_other w g k cs (by omega)⟩

/-- A whole array is read out of a block (the operation may be guarded). -/
theorem wpList_load_blk {P : Program} {ops : Array Oper} {rest : List Oper} {o : Oper} {a : Act} {w : World} {Q : Exit → Act → World → Prop} (hw : Region.wanted o (yielded ops a.tmps) = true) (ty : TypeId) (x : Operand) (ho : o.op = .load ty x)
    {g n : Nat} {T e : TypeId} {f : Nat → Value} (hb : Blk w g n T f) (hx : a.eval x = .pointer (some ⟨g, 0, none⟩)) (hu : P.underlying ty = some (.array n e)) (hi : (P.info? ty).map (·.size) = some n)
    (h : wpList P ops Q rest (a.put o.dst (.agg (row n f))) w) : wpList P ops Q (o :: rest) a w := by
  unfold wpList
  rw [if_pos hw]
  exact .inl (wp_load_row ty x ho g hx T (row n f) (0, 0) _ hb hu rfl (by rw [row_size]; exact hi) h)
/-- A whole array is written into a block. -/
theorem wpList_store_blk {P : Program} {ops : Array Oper} {rest : List Oper} {o : Oper} {a : Act} {w : World} {Q : Exit → Act → World → Prop} (hw : Region.wanted o (yielded ops a.tmps) = true) (ty : TypeId) (x y : Operand) (ho : o.op = .store ty x y)
    {g n : Nat} {T : TypeId} {f q : Nat → Value} (hb : Blk w g n T f) (hx : a.eval x = .pointer (some ⟨g, 0, none⟩)) (hy : a.eval y = .agg (row n q)) (hi : (P.info? ty).map (·.size) = some n)
    (h1 : ∀ i, i < n → (q i).oneCell' = true) (h : wpList P ops Q rest (a.put o.dst undef) (w.setRow g (row n q))) : wpList P ops Q (o :: rest) a w := by
  unfold wpList
  rw [if_pos hw]
  refine .inl (wp_store_row ty x y ho g (row n q) hx hy T (row n f) hb (by rw [row_size]; exact hi) (by simp [row_size]) ?_ h)
  rw [Array.all_eq_true]; intro i hi'; rw [row_size] at hi'
  have := row_get (f := q) hi'
  rw [Array.getElem?_eq_getElem (by rw [row_size]; exact hi')] at this
  rw [Option.some.inj this]; exact h1 i hi'
theorem I_one (g : Nat → Int) (i : Nat) : (I g i).oneCell' = true := rfl
/-- The function hands back the array that lies in a block. -/
theorem post_blk {P : Program} {fn : Func} {R : Ending → World → Prop} {a : Act} {w : World} {p : Tmp} {ty e : TypeId} (h : fn.results = #[.cell p ty]) {g n : Nat} {T : TypeId} {f : Nat → Value}
    (hb : Blk w g n T f) (hp : a.tmps.getD p undef = .pointer (some ⟨g, 0, none⟩)) (hu : P.underlying ty = some (.array n e)) (hi : (P.info? ty).map (·.size) = some n) (hd : a.defers = [])
    (hR : R (.returned (.agg (row n f))) w) : bodyPost P fn R .ret a w :=
  bodyPost_ret (results_cell_row h a.tmps w g T (row n f) (0, 0) _ hp hb hu rfl (by rw [row_size]; exact hi)) hd hR
/-- A callee that leaves the world alone, inside a quiet region. -/
theorem quiet_eq {P : Program} {f : FuncId} {args : Array Value} {w : World} {n : Nat} {v : Value}
    (h : Calls P f args (w.drewN n) fun e w' => e = .returned v ∧ w.drewN n = w') : Calls P f args (w.drewN n) fun e w'' => e = .returned v ∧ ∃ m, w'' = w.drewN m :=
  h.mono fun _ _ ⟨he, hm⟩ => ⟨he, n, hm.symm⟩

/-! ### a predicate over the places below n -/
def allB (p : Nat → Bool) : Nat → Bool
  | 0 => true
  | k + 1 => allB p k && p k
theorem allB_iff (p : Nat → Bool) (n : Nat) : allB p n = true ↔ ∀ i, i < n → p i = true := by
  induction n with
  | zero => simp [allB]
  | succ n ih =>
    simp only [allB, Bool.and_eq_true, ih]
    constructor
    · rintro ⟨h1, h2⟩ i hi
      by_cases e : i = n
      · exact e ▸ h2
      · exact h1 i (by omega)
    · exact fun h => ⟨fun i hi => h i (by omega), h n (by omega)⟩
theorem allB_false {p : Nat → Bool} {n k : Nat} (hk : k < n) (h : p k = false) : allB p n = false := by
  cases e : allB p n
  · rfl
  · have := (allB_iff p n).1 e k hk; rw [h] at this; cases this
/-- The first place below n at which p does not hold, or -1. -/
def firstNot (p : Nat → Bool) (n : Nat) : Int := match (List.range n).find? (fun i => !p i) with
  | some i => i
  | none => -1
theorem firstNot_none {p : Nat → Bool} {n : Nat} (h : ∀ j, j < n → p j = true) : firstNot p n = -1 := by
  unfold firstNot
  rw [List.find?_eq_none.2 (fun x hx => by simp [h x (List.mem_range.1 hx)])]
theorem firstNot_at {p : Nat → Bool} {n k : Nat} (hk : k < n) (h : p k = false) (h' : ∀ j, j < k → p j = true) : firstNot p n = k := by
  unfold firstNot
  have e : (List.range n).find? (fun i => !p i) = some k := by
    rw [List.find?_range_eq_some]
    exact ⟨by simp [h], List.mem_range.2 hk, fun j hj => by simp [h' j hj]⟩
  rw [e]
theorem firstNot_all (p : Nat → Bool) (n : Nat) : decide (0 ≤ firstNot p n) = !allB p n := by
  cases e : allB p n
  · unfold firstNot
    cases h : (List.range n).find? (fun i => !p i) with
    | none =>
      rw [List.find?_eq_none] at h
      have : allB p n = true := (allB_iff p n).2 fun i hi => by simpa using h i (List.mem_range.2 hi)
      rw [e] at this; cases this
    | some i => simp
  · rw [firstNot_none ((allB_iff p n).1 e)]; rfl

/-! ### a region that draws its order, whose operations read, or call what makes memory of its own and hands back plain values -/
/-- The class of worlds that such a region passes through. -/
def Grew (w w' : World) : Prop := Below w.heap.size w w'
theorem wp_region_grown_lit {P : Program} {id : Nat} {Q : Exit → Act → World → Prop} {a : Act} {w : World} {l : List Oper} (hm : P.follows .mixedOrders = true) (hB : Region.lexB .any l.toArray = true)
    (h : wpQuiet P l.toArray (Grew w) (fun a' => ∀ w', Grew w w' → Q .normal a' w') l a) : (Code.region id l.toArray true).wp P Q a w :=
  wp_region_quiet (C := Grew w) hm hB ⟨rfl, rfl, rfl, Nat.le_refl _, fun _ _ => rfl⟩ (by simpa using h)
theorem grown_load {P : Program} {o : Oper} {a : Act} {w0 : World} {K : Act → Prop} (ty : TypeId) (x : Operand) (ho : o.op = .load ty x)
    {g n : Nat} {T e : TypeId} {f : Nat → Value} (hb : Blk w0 g n T f) (hx : a.eval x = .pointer (some ⟨g, 0, none⟩)) (hu : P.underlying ty = some (.array n e)) (hi : (P.info? ty).map (·.size) = some n)
    (hk : K (a.put o.dst (.agg (row n f)))) : o.quiet P a (Grew w0) K := by
  refine ⟨_, fun w hw => ?_, hk⟩
  have hl := run_loadVar_row w g T ty (row n f) (0, 0) _ (hb.below hw hb.lt) hu rfl (by rw [row_size]; exact hi)
  unfold Oper.quietAt execOp
  simp only [ho, hx, Instr.loadAt, Instr.sureAddr, Sem.run_bind, Sem.run_pure, Result.andThen_ok, hl]
  exact ⟨rfl, rfl⟩
theorem grown_of {P : Program} {f : FuncId} {args : Array Value} {w0 w' : World} {v : Value} (hC : Grew w0 w')
    (h : Calls P f args w' fun e w'' => e = .returned v ∧ Below w'.heap.size w' w'') : Calls P f args w' fun e w'' => e = .returned v ∧ Grew w0 w'' :=
  h.mono fun _ _ ⟨he, hb⟩ => ⟨he, hC.trans (hb.mono hC.size)⟩
theorem grown_same {P : Program} {f : FuncId} {args : Array Value} {w0 w' : World} {v : Value} (hC : Grew w0 w')
    (h : Calls P f args w' fun e w'' => e = .returned v ∧ w' = w'') : Calls P f args w' fun e w'' => e = .returned v ∧ Grew w0 w'' :=
  h.mono fun _ _ ⟨he, hb⟩ => ⟨he, hb ▸ hC⟩
theorem Grew.below {w w' : World} (h : Grew w w') : Below w.heap.size w w' := h

/-- The function hands back the array that lies in a block, and a plain value. -/
theorem post_blk_tmp {P : Program} {fn : Func} {R : Ending → World → Prop} {a : Act} {w : World} {p u : Tmp} {ty e : TypeId} (h : fn.results = #[.cell p ty, .tmp u]) {g n : Nat} {T : TypeId} {f : Nat → Value}
    (hb : Blk w g n T f) (hp : a.tmps.getD p undef = .pointer (some ⟨g, 0, none⟩)) (hu : P.underlying ty = some (.array n e)) (hi : (P.info? ty).map (·.size) = some n) (hd : a.defers = [])
    (hR : R (.returned (.tuple #[.agg (row n f), a.tmps.getD u undef])) w) : bodyPost P fn R .ret a w := by
  refine bodyPost_ret ?_ hd hR
  rw [results_cell_tmp h, hp]
  have hl := run_loadVar_row w g T ty (row n f) (0, 0) _ hb hu rfl (by rw [row_size]; exact hi)
  simp only [asAddr, Sem.run_pure, Result.andThen_ok, hl]
/-- An element of an array value. -/
theorem index_row {P : Program} {T e : TypeId} {n k : Nat} {f : Nat → Value} (hu : P.underlying T = some (.array n e)) (he : ∀ w, (sizeOf e).run P w = .ok 1 w) (ha : ∀ w, (isAgg e).run P w = .ok false w) (hk : k < n) (w : World) :
    (Instr.index T (.agg (row n f)) (.int .i64 k)).run P w = .ok (f k) w := by
  have h1 : (0 : Int) ≤ (k : Int) ∧ (k : Int) < (n : Int) := by omega
  have h2 : (row n f)[k]? = some (f k) := row_get hk
  unfold Instr.index
  simp [Sem.run_bind, asIntOf, run_underlying hu, he, ha, part, h1, h2, hk]

/-- A new array of zeros. -/
theorem wpList_alloc_blk {P : Program} {ops : Array Oper} {rest : List Oper} {o : Oper} {a : Act} {w : World} {Q : Exit → Act → World → Prop} (hw : Region.wanted o (yielded ops a.tmps) = true) (ty : TypeId) (ho : o.op = .alloc ty) {n : Nat} {f : Nat → Value}
    (hz : ∀ w, (zeroValue ty).run P w = .ok (.agg (row n f)) w) (h : wpList P ops Q rest (a.put o.dst (.pointer (some ⟨w.heap.size, 0, none⟩))) (w.alloc (.cells (row n f) ty))) : wpList P ops Q (o :: rest) a w := by
  unfold wpList
  rw [if_pos hw]
  left
  unfold Oper.wp execOp
  simp only [ho, Instr.alloc, newVar, newRow, Sem.run_bind, hz, Result.andThen_ok, Sem.run_pure, Value.cells]
  exact h
/-- An array written as a literal. -/
theorem wpList_build_blk {P : Program} {ops : Array Oper} {rest : List Oper} {o : Oper} {a : Act} {w : World} {Q : Exit → Act → World → Prop} (hw : Region.wanted o (yielded ops a.tmps) = true) (ty : TypeId) (parts : Array (Nat × Operand)) (ho : o.op = .build ty parts) {n : Nat} {f : Nat → Value}
    (hb : P.built ty (parts.map fun (i, x) => (i, a.eval x)).toList = some (row n f)) (h : wpList P ops Q rest (a.put o.dst (.agg (row n f))) w) : wpList P ops Q (o :: rest) a w := by
  unfold wpList
  rw [if_pos hw]
  left
  unfold Oper.wp execOp
  simp only [ho, Sem.run_bind, run_build w ty _ _ hb, Result.andThen_ok, Sem.run_pure]
  exact h
theorem wpList_build0_blk {P : Program} {ops : Array Oper} {rest : List Oper} {o : Oper} {a : Act} {w : World} {Q : Exit → Act → World → Prop} (hw : Region.wanted o (yielded ops a.tmps) = true) (ty : TypeId) (ho : o.op = .build ty #[]) {n : Nat} {f : Nat → Value}
    (hb : P.built ty [] = some (row n f)) (h : wpList P ops Q rest (a.put o.dst (.agg (row n f))) w) : wpList P ops Q (o :: rest) a w :=
  wpList_build_blk hw ty #[] ho (by simpa using hb) h
theorem wpList_build1_blk {P : Program} {ops : Array Oper} {rest : List Oper} {o : Oper} {a : Act} {w : World} {Q : Exit → Act → World → Prop} (hw : Region.wanted o (yielded ops a.tmps) = true) (ty : TypeId) {i : Nat} {x : Operand} {v : Value} (ho : o.op = .build ty #[(i, x)]) {n : Nat} {f : Nat → Value}
    (hx : a.eval x = v) (hb : P.built ty [(i, v)] = some (row n f)) (h : wpList P ops Q rest (a.put o.dst (.agg (row n f))) w) : wpList P ops Q (o :: rest) a w :=
  wpList_build_blk hw ty #[(i, x)] ho (by simpa [hx] using hb) h

/-- A whole array is written into the newest block. -/
theorem wpList_store_new {P : Program} {ops : Array Oper} {rest : List Oper} {o : Oper} {a : Act} {w : World} {Q : Exit → Act → World → Prop} (hw : Region.wanted o (yielded ops a.tmps) = true) (ty : TypeId) (x y : Operand) (ho : o.op = .store ty x y)
    {g n : Nat} {T : TypeId} {f q : Nat → Value} (hx : a.eval x = .pointer (some ⟨g, 0, none⟩)) (hy : a.eval y = .agg (row n q)) (hg : g = w.heap.size) (hi : (P.info? ty).map (·.size) = some n)
    (h1 : ∀ i, i < n → (q i).oneCell' = true) (h : wpList P ops Q rest (a.put o.dst undef) (w.alloc (.cells (row n q) T))) : wpList P ops Q (o :: rest) a (w.alloc (.cells (row n f) T)) := by
  subst hg
  refine wpList_store_blk hw ty x y ho (Blk.new w n T f) hx hy hi h1 ?_
  have e : (w.alloc (.cells (row n f) T)).setRow w.heap.size (row n q) = w.alloc (.cells (row n q) T) := Go.World.setRow_alloc_new _ _ _ _
  rw [e]; exact h

/-- A whole array is written into a block, the world behind it under a name of its own. -/
theorem wpList_store_abs {P : Program} {ops : Array Oper} {rest : List Oper} {o : Oper} {a : Act} {w : World} {Q : Exit → Act → World → Prop} (hw : Region.wanted o (yielded ops a.tmps) = true) (ty : TypeId) (x y : Operand) (ho : o.op = .store ty x y)
    {g n : Nat} {T : TypeId} {f q : Nat → Value} (hb : Blk w g n T f) (hx : a.eval x = .pointer (some ⟨g, 0, none⟩)) (hy : a.eval y = .agg (row n q)) (hi : (P.info? ty).map (·.size) = some n)
    (h1 : ∀ i, i < n → (q i).oneCell' = true)
    (h : ∀ w', Blk w' g n T q → (∀ b m T' f', b ≠ g → Blk w b m T' f' → Blk w' b m T' f') → (∀ B a, B ≤ g → Below B a w → Below B a w') → wpList P ops Q rest (a.put o.dst undef) w') : wpList P ops Q (o :: rest) a w :=
  wpList_store_blk hw ty x y ho hb hx hy hi h1 (h _ (hb.setRow q) (fun b m T' f' hne hb' => hb'.setRowOther g _ hne) (fun B a hB hb' => below_setRow hb' hB _))
end Go.Proofs.Ytbfhfadfjgfmaaa
