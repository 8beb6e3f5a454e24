/- Texts of mine, joined by merge.py. -/
import Derived.Test.YtbfhfadfjgfmaaaSlice1
import Derived.RangeFuncNested
import Derived.RangeFuncBound
import Derived.RangeFuncCalls
import Derived.RangeFuncLeaves
import Derived.RangeFuncFrom
import Derived.RangeFuncBox
import Derived.WalkKit
import Derived.OwnWalkIn
import Derived.TacticsInMore
import Derived.LoopNIn
import Derived.LoopIn
import Derived.Maps.OwnIn
import Derived.Maps.AppendAt
import Derived.Test.YtbfhfadfjgfmaaaSafest
import Derived.Shelf.Abstract
import Derived.Shelf.SlSortCmp.NoneTotal
import Derived.Ground.SlsfProg
import Derived.Test.YtbfhfadfjgfmaaaProg
import Derived.Test.YtbfhfadfjgfmaaaLex
import Derived.Test.YtbfhfadfjgfmaaaArrs
import Derived.Test.YtbfhfadfjgfmaaaKept
import Derived.Test.YtbfhfadfjgfmaaaPlaces2
/- Whole arrays inside a fence: made, written, read, laid in a slice. Written by gen_arrseq.py. -/
set_option linter.unusedVariables false
set_option linter.unusedSimpArgs false
set_option linter.unusedSectionVars false
namespace Go.Proofs.Ytbfhfadfjgfmaaa
open Go.RowKit
section
variable {F : Fence} {n : Nat} {P : Program} {ops : Array Oper} {Q : Exit → Act → World → Prop} {a : Act} {w : World} {rest : List Oper} {o : Oper}
theorem inA_val (hg : o.guard = none) (hab : o.about P w a.eval = none) (hd : ∀ c, o.op ≠ .defer c) {v : Value} {w' : World} (hr : (execOp a.eval o).run P w = .ok (.value v) w') (h : wpListIn F n P ops Q rest (a.put o.dst v) w') : wpListIn F n P ops Q (o :: rest) a w :=
  wpListIn_plain hg fun K hK => ⟨by rw [hab]; simp, by rw [Oper.semAt_plain F _ _ hd, hr]; exact hK _ _ h⟩
theorem inA_skip (hg : o.guard = none) (hab : o.about P w a.eval = none) (hd : ∀ c, o.op ≠ .defer c) {w' : World} (hr : (execOp a.eval o).run P w = .ok .skip w') (h : wpListIn F n P ops Q rest (a.put o.dst undef) w') : wpListIn F n P ops Q (o :: rest) a w :=
  wpListIn_plain hg fun K hK => ⟨by rw [hab]; simp, by rw [Oper.semAt_plain F _ _ hd, hr]; exact hK _ _ h⟩
theorem inA_alloc (hg : o.guard = none) (ty : TypeId) (ho : o.op = .alloc ty) {k : Nat} {f : Nat → Value} (hz : ∀ w, (zeroValue ty).run P w = .ok (.agg (row k f)) w)
    (h : wpListIn F n P ops Q rest (a.put o.dst (.pointer (some ⟨w.heap.size, 0, none⟩))) (w.alloc (.cells (row k f) ty))) : wpListIn F n P ops Q (o :: rest) a w := by
  refine inA_val hg (by simp [Oper.about, ho]) (by rw [ho]; intro c hc; cases hc) ?_ h
  unfold execOp
  simp only [ho, Instr.alloc, newVar, newRow, Sem.run_bind, hz, Result.andThen_ok, Sem.run_pure, Value.cells]
  rfl
theorem inA_load (hg : o.guard = none) (ty : TypeId) (x : Operand) (ho : o.op = .load ty x) {g k : Nat} {T e : TypeId} {f : Nat → Value} (hb : Blk w g k T f) (hx : a.eval x = .pointer (some ⟨g, 0, none⟩)) (hu : P.underlying ty = some (.array k e)) (hi : (P.info? ty).map (·.size) = some k)
    (h : wpListIn F n P ops Q rest (a.put o.dst (.agg (row k f))) w) : wpListIn F n P ops Q (o :: rest) a w := by
  refine inA_val hg (by simp [Oper.about, ho]) (by rw [ho]; intro c hc; cases hc) ?_ h
  unfold execOp
  simp only [ho, hx, Instr.loadAt, Instr.sureAddr, Sem.run_bind, Sem.run_pure, Result.andThen_ok, run_loadVar_row w g T ty (row k f) (0, 0) _ hb hu rfl (by rw [row_size]; exact hi)]
theorem inA_store_new (hg : o.guard = none) (ty : TypeId) (x y : Operand) (ho : o.op = .store ty x y) {g k : Nat} {T : TypeId} {f q : Nat → Value} (hx : a.eval x = .pointer (some ⟨g, 0, none⟩)) (hy : a.eval y = .agg (row k q)) (hgs : g = w.heap.size) (hi : (P.info? ty).map (·.size) = some k)
    (h1 : ∀ i, i < k → (q i).oneCell' = true) (h : wpListIn F n P ops Q rest (a.put o.dst undef) (w.alloc (.cells (row k q) T))) : wpListIn F n P ops Q (o :: rest) a (w.alloc (.cells (row k f) T)) := by
  subst hgs
  have hall : (row k q).all (·.oneCell') = true := by
    rw [Array.all_eq_true]; intro i hi'; rw [row_size] at hi'
    have := row_get (f := q) hi'
    rw [Array.getElem?_eq_getElem (by rw [row_size]; exact hi')] at this
    rw [Option.some.inj this]; exact h1 i hi'
  have e : (w.alloc (.cells (row k f) T)).setRow w.heap.size (row k q) = w.alloc (.cells (row k q) T) := Go.World.setRow_alloc_new _ _ _ _
  refine inA_skip hg (by simp [Oper.about, ho]) (by rw [ho]; intro c hc; cases hc) ?_ h
  unfold execOp
  simp only [ho, hx, hy, Instr.storeAt, Instr.sureAddr, Sem.run_bind, Sem.run_pure, Result.andThen_ok, run_storeVar_row (w.alloc (.cells (row k f) T)) w.heap.size T ty (row k f) (row k q) (Blk.new w k T f) (by rw [row_size]; exact hi) (by simp [row_size]) hall, e]
theorem inA_slice (hg : o.guard = none) {ty : TypeId} {m : Nat} {parts : Array (Nat × Operand)} (ho : o.op = .buildSlice ty m parts) {vs : Array (Nat × Value)} {r : Value} {w' : World} (hv : parts.map (fun (i, x) => (i, a.eval x)) = vs) (hr : (Instr.buildSlice ty m vs).run P w = .ok r w')
    (h : wpListIn F n P ops Q rest (a.put o.dst r) w') : wpListIn F n P ops Q (o :: rest) a w := by
  refine inA_val hg (by simp [Oper.about, ho]) (by rw [ho]; intro c hc; cases hc) ?_ h
  unfold execOp
  simp only [ho, hv, Sem.run_bind, hr, Result.andThen_ok, Sem.run_pure]
end
theorem ap_frame (v x0 x1 x2 x3 x4 x5 x6 x7 x8 x9 x10 x11 x12 : Value) : (#[7].zip #[v]).foldl (fun t (x : Nat × Value) => match x with | (p, v) => t.setIfInBounds p v) #[x0, x1, x2, x3, x4, x5, x6, x7, x8, x9, x10, x11, x12] = #[x0, x1, x2, x3, x4, x5, x6, v, x8, x9, x10, x11, x12] := by
  first | rfl | simp | kernel_rfl
theorem blk_own {β : Type} (b n : Nat) (T : TypeId) (f : Nat → Value) : Own (fun (_ : β) W => Blk W b n T f) := by
  rintro s X Y row hb hg hrow
  refine hb.grown hg (fun e => ?_)
  obtain ⟨o, ho, hc⟩ := hrow b e.symm
  rw [show X.heap[b]? = _ from hb] at ho
  cases ho
  cases hc
end Go.Proofs.Ytbfhfadfjgfmaaa

/- slices.AppendSeq and slices.Collect at [][6]int, against whatever iterator. Written by gen_arrseq.py. -/
set_option linter.unusedVariables false
set_option linter.unusedSimpArgs false
set_option linter.unusedSectionVars false
namespace Go.Proofs.Ytbfhfadfjgfmaaa
open Go.RowKit
attribute [local go_sem] Oper.semAt_some
/-- The cells of a list of arrays. -/
def flat6 (xs : List (Nat → Int)) : List Value := xs.flatMap fun x => (row 6 (I x)).toList
theorem flat6_snoc (xs : List (Nat → Int)) (x : Nat → Int) : flat6 (xs ++ [x]) = flat6 xs ++ (row 6 (I x)).toList := by simp [flat6]
theorem row_one6 (x : Nat → Int) : ∀ u ∈ (row 6 (I x)).toList, u.oneCell' = true := fun u hu => by
  simp only [row, List.mem_map] at hu
  obtain ⟨j, _, rfl⟩ := hu
  rfl
theorem row_cells6 (x : Nat → Int) (W : World) : ∀ j u, (row 6 (I x)).toList[j]? = some u → (W.alloc (.cells (row 6 (I x)) 53)).cell? ((⟨W.heap.size, 0, none⟩ : Addr).add j) = some u := fun j u hu => by
  have hj : j < 6 := by
    by_cases h : j < 6
    · exact h
    · rw [List.getElem?_eq_none (by simp [row]; omega)] at hu; cases hu
  rw [addr_add, Nat.zero_add, (Blk.new W 6 53 (I x)).cell hj]
  rw [Array.getElem?_toList, row_get hj] at hu
  exact hu
theorem row_len6 (x : Nat → Int) : (row 6 (I x)).toList.length = 1 * 6 := by simp [row]
theorem inA_build1_6 {F : Fence} {n : Nat} {ops : Array Oper} {Q : Exit → Act → World → Prop} {a : Act} {w : World} {rest : List Oper} {o : Oper} (hg : o.guard = none) {x : Operand} (ho : o.op = .buildSlice 22 1 #[(0, x)]) {g : Nat → Int}
    (hx : a.eval x = .agg (row 6 (I g))) (h : wpListIn F n Try.prog ops Q rest (a.put o.dst (.slice (some ⟨w.heap.size, 0, none⟩) 1 1)) (w.alloc (.cells (row 6 (I g)) 53))) : wpListIn F n Try.prog ops Q (o :: rest) a w :=
  inA_slice hg ho (by simp [hx]) (built1_6 g w) h
set_option maxRecDepth 100000 in
set_option maxHeartbeats 400000 in
theorem appendSeq6_in (n : Nat) (hn : 3 ≤ n) {gf : Nat} {lb : Array Value} (eg : ∀ args w, (callFunc gf args).run Try.prog w = .ok (.enter gf args) w) {Kp : World → World → Prop} {S Sp : List (Nat → Int) → Prop} {N : Nat} (hN : N ≤ 1000) (w : World)
    (hseq : SeqStopsK Fence.wide (n - 1) Try.prog gf lb (fun x : Nat → Int => #[.agg (row 6 (I x))]) Kp S Sp N w) (hKt : ∀ {A B C : World}, Kp A B → Kp B C → Kp A C) (hKb : ∀ (W : World) (l : Nat) (o o' : Obj), w.heap.size ≤ l → W.heap[l]? = some o → o.isCells = false → o.isWalk = false → Kp W (W.putObj l o')) (hKo : ∀ A B, KeepsOthers A B → Below w.heap.size A B → Kp A B) :
    CallsIn Fence.wide n Try.prog 114 #[.slice none 0 0, .func (.func gf) #[] lb] w fun e W' => ∃ (v : Value) (xs : List (Nat → Int)), e = .returned v ∧ S xs ∧ W'.ownsRow w.heap.size 53 6 v xs.length (flat6 xs) ∧ (v = .slice none 0 0 ↔ xs = []) ∧ Below w.heap.size w W' := by
  have h1 : 1 ≤ n := by omega
  have hro : Fence.wide.round = none := rfl
  obtain ⟨i0, hi, hz0, hz1, hz2⟩ := info_parts infoA6
  refine callsIn_of_wp_marks Try.func114 rfl trivial ?_ rfl
  simp only [Try.ntmps114, List.size_toArray, List.length_cons, List.length_nil, Nat.reduceAdd, Nat.reduceSub, Array.replicate_succ, Array.replicate_zero, List.push_toArray, List.append_toArray, List.nil_append, List.cons_append]
  gi_wp2
  have bO := Boxed.new w 22 (.slice none 0 0)
  have hB0 : Below w.heap.size w (w.alloc (.cells #[.slice none 0 0] 22)) := (Below.refl _ w).alloc (Nat.le_refl _) _
  have hsz : (w.alloc (.cells #[.slice none 0 0] 22)).heap.size = w.heap.size + 1 := by simp
  obtain ⟨W0, hW0⟩ : ∃ W0, w.alloc (.cells #[.slice none 0 0] 22) = W0 := ⟨_, rfl⟩
  rw [hW0] at bO hB0 hsz ⊢
  clear hW0
  refine wpIn_rangeFunc_ownH hro h1 (gf := gf) (lb := lb) rfl trivial eg hseq hKt (fun W l o o' hl => hKb W l o o' (by omega)) hB0 (fun _ => rfl)
    (fun pre W => (∃ v, Boxed W w.heap.size 22 v ∧ W.ownsRow w.heap.size 53 6 v pre.length (flat6 pre) ∧ (v = .slice none 0 0 ↔ pre = [])) ∧ Below w.heap.size w W)
    (fun _ _ _ => False)
    (OwnFrom.and (Own.from (holdsRow_own w.heap.size w.heap.size 22 53 6 (fun pre => pre.length) (fun pre => flat6 pre) (fun pre v => v = .slice none 0 0 ↔ pre = [])) _) (ownFrom_below (Nat.le_refl _) (by omega)))
    (fun _ _ _ _ _ hs _ _ => hs)
    ⟨⟨_, bO, World.ownsRow_nil _ _ _ _, by simp⟩, hB0⟩
    (fun x a' W => ∃ Bx, w.heap.size < Bx ∧ Blk W Bx 6 53 (I x) ∧ a' = { tmps := #[.slice none 0 0, .func (.func gf) #[] lb, .pointer (some ⟨w.heap.size, 0, none⟩), undef, .slice none 0 0, .pointer (some ⟨Bx, 0, none⟩), .func (.func gf) #[] lb, .agg (row 6 (I x)), undef, undef, undef, undef, undef], defers := [] })
    (fun x a' _ X Y row hs hg hr => by obtain ⟨Bx, h1, h2, h3⟩ := hs; exact ⟨Bx, h1, blk_own Bx 6 _ _ () X Y row h2 hg (fun r e => (hr r e).2), h3⟩)
    ?assign ?body ?done ?stop
  case assign =>
    rintro l pre x W K ⟨⟨v, hv, hrow, hnil⟩, hB1⟩ hK
    rw [ap_frame]
    refine wpIn_region_lit ?_
    refine inA_alloc rfl 53 rfl zero6 ?_
    refine inA_store_new (q := I x) rfl 53 _ _ rfl rfl rfl rfl sz6 (fun _ _ => rfl) ?_
    refine wpListIn_nil ?_
    exact hK _ _ ((KeepsOthers.alloc _ _).from _) (hKo _ _ (KeepsOthers.alloc _ _) ((Below.refl _ W).alloc hB1.size _)) ⟨⟨v, hv.alloc _, hrow.alloc _, hnil⟩, hB1.alloc hB1.size _⟩ ⟨W.heap.size, hv.lt, Blk.new _ _ _ _, rfl⟩
  case body =>
    rintro l pre x a' W hl ⟨r, hr⟩ ⟨⟨v, hv, hrow, hnil⟩, hB⟩ ⟨Bx, hBx, bX, rfl⟩ hlt
    have hc := hv.cell
    gi_wp2_with (first
      | (refine inA_load rfl 53 _ rfl bX rfl Try.underlying53 sz6 ?_)
      | (refine inA_build1_6 rfl rfl (g := x) rfl ?_)
      | (gi_at_builtin; refine wpListIn_append_own _ rfl _ _ 22 rfl w.heap.size 53 i0 (.agg (row 6 (I fun _ => 0))) 6 (8 * 6) Try.underlying22 hi hz0 hz1 hz2 rfl (by decide) _ _ _ rfl (hrow.alloc _) ⟨W.heap.size, 0, none⟩ 1 1 (row 6 (I x)).toList rfl (row_len6 x) (row_cells6 x W) (row_one6 x) (by simp only [maxLen]; omega) (by omega) (by have := hB.size; simp; omega) ?_; intro v' w1 hown' hgrow _; obtain ⟨g', cap', rfl⟩ := ownsRow_succ hown'; obtain ⟨hv1, hv2, hr2, hk2, hb2⟩ := hv.appended (by decide) hrow hB.size (Nat.le_refl _) hown' hgrow; have hc1 := hv1.cell; have hf1 := hv1.frozen))
    exact ⟨hk2.from _, hKo _ _ hk2 hb2, ⟨_, hv2, by rw [flat6_snoc, List.length_append]; exact hr2, by simp⟩, hB.trans hb2⟩
  case done =>
    rintro D ys W hD hS ⟨⟨v, hv, hrow, hnil⟩, hB⟩ hK
    have hc := hv.cell
    gi_wp2
    refine ⟨by simp, .inl ⟨_, _, rfl, run_takeDeferred hK, ?_⟩⟩
    exact ⟨_, results_tmp rfl _ _ _, v, ys, rfl, hS, ownsRow_putObj hrow _ hK rfl, hnil, hB.trans (belowK_b (w := w) (Nat.le_refl _) W D _ _ (by omega) hK rfl rfl)⟩
  case stop =>
    rintro D c pre W _ _ h _
    exact h.elim
end Go.Proofs.Ytbfhfadfjgfmaaa

/- slices.Values of a pool, collected: a fresh copy of the pool. -/
set_option linter.unusedVariables false
set_option linter.unusedSimpArgs false
set_option linter.unusedSectionVars false
namespace Go.Proofs.Ytbfhfadfjgfmaaa
open Go.RowKit Go.Shelf
attribute [local go_sem] Oper.semAt_some
theorem inA_loadc {F : Fence} {m : Nat} {P : Program} {ops : Array Oper} {Q : Exit → Act → World → Prop} {a : Act} {w : World} {rest : List Oper} {o : Oper} (hg : o.guard = none) (ty : TypeId) (x : Operand) (ho : o.op = .load ty x) {n : Nat} {p : Addr} {g : Nat → Value} (hx : a.eval x = .pointer (some p)) (hc : ∀ j, j < n → w.cell? (p.add j) = some (g j)) (ha : ∀ w, (isAgg ty).run P w = .ok true w) (hi : (P.info? ty).map (·.size) = some n)
    (h : wpListIn F m P ops Q rest (a.put o.dst (.agg (row n g))) w) : wpListIn F m P ops Q (o :: rest) a w := by
  refine inA_val hg (by simp [Oper.about, ho]) (by rw [ho]; intro c hc; cases hc) ?_ h
  unfold execOp
  simp only [ho, hx, Instr.loadAt, Instr.sureAddr, Sem.run_bind, Sem.run_pure, Result.andThen_ok, run_loadVar_cells hc ha hi]
theorem upto_succ6 {α : Type} (f : Nat → α) (k : Nat) : (List.range (k + 1)).map f = (List.range k).map f ++ [f k] := by simp [List.range_succ]
set_option maxRecDepth 100000 in
set_option maxHeartbeats 1000000 in
theorem values6_stops (m : Nat) (hm : 1 ≤ m) (Bs n₀ : Nat) (a : Addr) (n c : Nat) (x : Nat → Nat → Int) (hn : n ≤ 1000) (w : World) (hBs : Bs < w.heap.size) (hn₀ : n₀ ≤ w.heap.size) (ha : a.block < n₀) (hc : w.cell? ⟨Bs, 0, none⟩ = some (.slice (some a) n c)) (hD : Dice6 w a n x) :
    SeqStopsK Fence.wide m Try.prog 90 #[.pointer (some ⟨Bs, 0, none⟩)] (fun x : Nat → Int => #[.agg (row 6 (I x))]) (Below n₀) (fun ys => ys = (List.range n).map x) (fun _ => True) n w := fun l J Jx W hW hJ hJx hY h0 => by
  have hc' : W.cell? ⟨Bs, 0, none⟩ = some (.slice (some a) n c) := (hW.cell (p := ⟨Bs, 0, none⟩) hBs).trans hc
  have hD' : ∀ k, k < n → ∀ j, j < 6 → W.cell? ((a.add (k * 6)).add j) = some (I (x k) j) := fun k hk j hj => by
    rw [hW.cell (by rw [add_block, add_block]; omega)]
    exact (hD k hk).2 j hj
  refine callsIn_of_wp Try.func90 rfl trivial ?_ rfl
  simp only [Try.ntmps90, List.size_toArray, List.length_cons, List.length_nil, Nat.reduceAdd, Nat.reduceSub, Array.replicate_succ, Array.replicate_zero, List.push_toArray, List.append_toArray, List.nil_append, List.cons_append]
  gi_wp2
  gi_loopw [7] (fun i wr => ∃ k : Nat, k ≤ n ∧ i = .int .i64 k ∧ J ((List.range k).map x) wr ∧ Below n₀ W wr) (fun i _ => n - (RowKit.intOf i).toNat)
  case atStart => exact ⟨0, Nat.zero_le _, rfl, h0, Below.refl _ _⟩
  case round =>
    obtain ⟨k, hk, rfl, hJs, hnx⟩ := hrel
    by_cases hlt : k < n
    · have d0 : decide (k < n) = true := by simp; omega
      have hcell : ∀ j, j < 6 → wr.cell? ((a.add (k * 6)).add j) = some (I (x k) j) := fun j hj => by
        rw [hnx.cell (by rw [add_block, add_block]; exact ha)]
        exact hD' k hlt j hj
      have hJ2 : J ((List.range k).map x) (wr.alloc (.cells (row 6 (I (x k))) 53)) := hJ _ wr _ none hJs (World.grownBy_alloc wr _ none) (by simp)
      obtain ⟨fn, tmps, assign, body, hy, hR⟩ := hY _ (x k) _ hJ2 (by simp; omega)
      (try dsimp only at hy)
      have hs0 := hnx.size
      gi_wp2_with (first
        | (refine inA_loadc rfl 53 _ rfl rfl hcell Try.isAgg53 sz6 ?_)
        | (refine inA_alloc rfl 53 rfl zero6 ?_)
        | (refine inA_store_new (q := I (x k)) rfl 53 _ _ rfl rfl rfl rfl sz6 (fun _ _ => rfl) ?_)
        | (refine inA_load rfl 53 _ rfl (Blk.new _ _ _ _) rfl Try.underlying53 sz6 ?_))
      refine hR.mono ?_
      rintro e W3 (⟨rfl, hJ3, hk3⟩ | ⟨rfl, hJx3⟩)
      · gi_wp2
        go_roundw
        case rel => exact ⟨k + 1, by omega, by go_num, by rw [upto_succ6]; exact hJ3, (hnx.alloc (by have := hW.size; omega) _).trans hk3⟩
        case measure => simp [RowKit.intOf]; omega
      · gi_wp2
        refine bodyPost_ret (results_none rfl _ _ _) rfl ?_
        exact ⟨⟨_, rfl⟩, .inr ⟨_, trivial, hJx3⟩⟩
    · obtain rfl : k = n := by omega
      have d0 : decide (k < k) = false := by simp
      gi_wp2
      go_end0
      exact ⟨⟨_, rfl⟩, .inl ⟨_, rfl, hJs⟩⟩
theorem collect6_any (Bs : Nat) (a : Addr) (n c : Nat) (x : Nat → Nat → Int) (hn : n ≤ 1000) (w : World) (hBs : Bs < w.heap.size) (ha : a.block < w.heap.size) (hc : w.cell? ⟨Bs, 0, none⟩ = some (.slice (some a) n c)) (hD : Dice6 w a n x) :
    Calls Try.prog 88 #[.func (.func 90) #[] #[.pointer (some ⟨Bs, 0, none⟩)]] w fun e w' => ∃ v : Value, e = .returned v ∧ w'.ownsRow w.heap.size 53 6 v n (flat6 ((List.range n).map x)) ∧ Below w.heap.size w w' := by
  have HS := Lib.hid (values6_stops 5 (by omega) Bs w.heap.size a n c x hn w hBs (Nat.le_refl _) ha hc hD)
  have eg : ∀ args w, (callFunc 90 args).run Try.prog w = .ok (.enter 90 args) w := enters_of Try.func90 (by kernel_rfl) rfl
  have EG := Lib.hid eg
  clear hc hD eg
  go_enter Try.func88, Try.ntmps88
  go_wp2_with fail
  go_at_call 114
  refine ((callsIn_wide (n := 6)).1 (appendSeq6_in 6 (by omega) EG.out (by omega) w HS.out belowK_t (belowK_b (Nat.le_refl _)) (fun A B _ hb => hb))).mono ?_
  rintro e w1 ⟨v, xs, rfl, rfl, ho, -, hb⟩
  have HO := Lib.hid ho; have HB := Lib.hid hb
  clear ho hb
  go_wp2
  go_ret
  exact ⟨v, rfl, by have := HO.out; simpa using this, HB.out⟩
theorem values6_any (o : Option Addr) (n c : Nat) (w : World) : Calls Try.prog 44 #[.slice o n c] w fun e w' => e = .returned (.func (.func 90) #[] #[.pointer (some ⟨w.heap.size, 0, none⟩)]) ∧ w' = w.alloc (.cells #[.slice o n c] 22) := by
  go_enter Try.func44, Try.ntmps44
  go_wp2
  go_ret
  exact ⟨rfl, rfl⟩
end Go.Proofs.Ytbfhfadfjgfmaaa

/- slices.SortFunc's family at [][6]int and [][4]int at this translation: laid by the kit's tool in plain words. Seat Q alone: the numbers are its own. -/
set_option linter.unusedVariables false
set_option linter.unusedSimpArgs false
set_option linter.unusedSectionVars false
namespace Go.Proofs
open Go.Shelf
def Try.srt6_ren : Go.Shelf.Ren := ⟨fun | 6 => 89 | 15 => 107 | 14 => 115 | 28 => 130 | 29 => 131 | 20 => 136 | 21 => 137 | 22 => 138 | 23 => 139 | 24 => 140 | 25 => 141 | 26 => 142 | 27 => 143 | 46 => 160 | 47 => 155 | 48 => 156 | 49 => 161 | 50 => 162 | 57 => 175 | n => n, fun | 22 => 22 | 24 => 53 | 25 => 59 | 3 => 3 | 39 => 105 | 0 => 0 | 53 => 123 | 55 => 125 | 4 => 4 | 46 => 117 | 45 => 116 | 50 => 34 | 5 => 5 | 9 => 9 | 66 => 140 | 70 => 144 | 76 => 156 | 77 => 157 | n => n, fun | n => n⟩
theorem Try.srt6 : Go.Proofs.SlLaysF0.n6 Try.prog Try.srt6_ren := {
  mixed := by kernel_rfl
  f6 := ⟨Try.f89.name, by decide, Try.func89.trans (congrArg some (by kernel_rfl))⟩
  f14 := ⟨Try.f115.name, by decide, Try.func115.trans (congrArg some (by kernel_rfl))⟩
  f15 := Try.func107.trans (congrArg some (by kernel_rfl))
  f20 := ⟨Try.f136.name, by decide, Try.func136.trans (congrArg some (by kernel_rfl))⟩
  f21 := ⟨Try.f137.name, by decide, Try.func137.trans (congrArg some (by kernel_rfl))⟩
  f22 := ⟨Try.f138.name, by decide, Try.func138.trans (congrArg some (by kernel_rfl))⟩
  f23 := ⟨Try.f139.name, by decide, Try.func139.trans (congrArg some (by kernel_rfl))⟩
  f24 := ⟨Try.f140.name, by decide, Try.func140.trans (congrArg some (by kernel_rfl))⟩
  f25 := ⟨Try.f141.name, by decide, Try.func141.trans (congrArg some (by kernel_rfl))⟩
  f26 := ⟨Try.f142.name, by decide, Try.func142.trans (congrArg some (by kernel_rfl))⟩
  f27 := ⟨Try.f143.name, by decide, Try.func143.trans (congrArg some (by kernel_rfl))⟩
  f28 := Try.func130.trans (congrArg some (by kernel_rfl))
  f29 := Try.func131.trans (congrArg some (by kernel_rfl))
  f46 := ⟨Try.f160.name, by decide, Try.func160.trans (congrArg some (by kernel_rfl))⟩
  f47 := Try.func155.trans (congrArg some (by kernel_rfl))
  f48 := Try.func156.trans (congrArg some (by kernel_rfl))
  f49 := ⟨Try.f161.name, by decide, Try.func161.trans (congrArg some (by kernel_rfl))⟩
  f50 := ⟨Try.f162.name, by decide, Try.func162.trans (congrArg some (by kernel_rfl))⟩
  f57 := ⟨Try.f175.name, by decide, Try.func175.trans (congrArg some (by kernel_rfl))⟩
  t0 := Try.underlying0
  a0 := Try.isAgg0
  z0 := Try.sizeOf0
  v0 := Try.zeroValue0
  t3 := Try.underlying3
  a3 := Try.isAgg3
  z3 := Try.sizeOf3
  v3 := Try.zeroValue3
  t4 := Try.underlying4
  a4 := Try.isAgg4
  z4 := Try.sizeOf4
  v4 := Try.zeroValue4
  t5 := Try.underlying5
  a5 := Try.isAgg5
  z5 := Try.sizeOf5
  v5 := Try.zeroValue5
  t9 := Try.underlying9
  a9 := Try.isAgg9
  z9 := Try.sizeOf9
  v9 := Try.zeroValue9
  t22 := Try.underlying22
  a22 := Try.isAgg22
  z22 := Try.sizeOf22
  v22 := Try.zeroValue22
  t25 := Try.underlying59
  a25 := Try.isAgg59
  z25 := Try.sizeOf59
  v25 := Try.zeroValue59
  t39 := Try.underlying105
  a39 := Try.isAgg105
  z39 := Try.sizeOf105
  v39 := Try.zeroValue105
  t45 := Try.underlying116
  a45 := Try.isAgg116
  z45 := Try.sizeOf116
  v45 := Try.zeroValue116
  t46 := Try.underlying117
  a46 := Try.isAgg117
  z46 := Try.sizeOf117
  v46 := Try.zeroValue117
  t50 := Try.underlying34
  a50 := Try.isAgg34
  z50 := Try.sizeOf34
  v50 := Try.zeroValue34
  t53 := Try.underlying123
  a53 := Try.isAgg123
  z53 := Try.sizeOf123
  v53 := Try.zeroValue123
  t55 := Try.underlying125
  a55 := Try.isAgg125
  z55 := Try.sizeOf125
  v55 := Try.zeroValue125
  t66 := Try.underlying140
  a66 := Try.isAgg140
  z66 := Try.sizeOf140
  v66 := Try.zeroValue140
  t70 := Try.underlying144
  a70 := Try.isAgg144
  z70 := Try.sizeOf144
  v70 := Try.zeroValue144
  t76 := Try.underlying156
  a76 := Try.isAgg156
  z76 := Try.sizeOf156
  v76 := Try.zeroValue156
  t77 := Try.underlying157
  a77 := Try.isAgg157
  z77 := Try.sizeOf157
  v77 := Try.zeroValue157 }
def Try.srt4_ren : Go.Shelf.Ren := ⟨fun | 6 => 99 | 15 => 107 | 14 => 121 | 28 => 130 | 29 => 131 | 20 => 146 | 21 => 147 | 22 => 148 | 23 => 149 | 24 => 150 | 25 => 151 | 26 => 152 | 27 => 153 | 46 => 171 | 47 => 155 | 48 => 156 | 49 => 172 | 50 => 173 | 57 => 179 | n => n, fun | 22 => 38 | 24 => 29 | 25 => 73 | 3 => 3 | 39 => 105 | 0 => 0 | 53 => 123 | 55 => 125 | 4 => 4 | 46 => 117 | 45 => 116 | 50 => 34 | 5 => 5 | 9 => 9 | 66 => 140 | 70 => 144 | 76 => 156 | 77 => 157 | n => n, fun | n => n⟩
theorem Try.srt4 : Go.Proofs.SlLaysF0.n6 Try.prog Try.srt4_ren := {
  mixed := by kernel_rfl
  f6 := ⟨Try.f99.name, by decide, Try.func99.trans (congrArg some (by kernel_rfl))⟩
  f14 := ⟨Try.f121.name, by decide, Try.func121.trans (congrArg some (by kernel_rfl))⟩
  f15 := Try.func107.trans (congrArg some (by kernel_rfl))
  f20 := ⟨Try.f146.name, by decide, Try.func146.trans (congrArg some (by kernel_rfl))⟩
  f21 := ⟨Try.f147.name, by decide, Try.func147.trans (congrArg some (by kernel_rfl))⟩
  f22 := ⟨Try.f148.name, by decide, Try.func148.trans (congrArg some (by kernel_rfl))⟩
  f23 := ⟨Try.f149.name, by decide, Try.func149.trans (congrArg some (by kernel_rfl))⟩
  f24 := ⟨Try.f150.name, by decide, Try.func150.trans (congrArg some (by kernel_rfl))⟩
  f25 := ⟨Try.f151.name, by decide, Try.func151.trans (congrArg some (by kernel_rfl))⟩
  f26 := ⟨Try.f152.name, by decide, Try.func152.trans (congrArg some (by kernel_rfl))⟩
  f27 := ⟨Try.f153.name, by decide, Try.func153.trans (congrArg some (by kernel_rfl))⟩
  f28 := Try.func130.trans (congrArg some (by kernel_rfl))
  f29 := Try.func131.trans (congrArg some (by kernel_rfl))
  f46 := ⟨Try.f171.name, by decide, Try.func171.trans (congrArg some (by kernel_rfl))⟩
  f47 := Try.func155.trans (congrArg some (by kernel_rfl))
  f48 := Try.func156.trans (congrArg some (by kernel_rfl))
  f49 := ⟨Try.f172.name, by decide, Try.func172.trans (congrArg some (by kernel_rfl))⟩
  f50 := ⟨Try.f173.name, by decide, Try.func173.trans (congrArg some (by kernel_rfl))⟩
  f57 := ⟨Try.f179.name, by decide, Try.func179.trans (congrArg some (by kernel_rfl))⟩
  t0 := Try.underlying0
  a0 := Try.isAgg0
  z0 := Try.sizeOf0
  v0 := Try.zeroValue0
  t3 := Try.underlying3
  a3 := Try.isAgg3
  z3 := Try.sizeOf3
  v3 := Try.zeroValue3
  t4 := Try.underlying4
  a4 := Try.isAgg4
  z4 := Try.sizeOf4
  v4 := Try.zeroValue4
  t5 := Try.underlying5
  a5 := Try.isAgg5
  z5 := Try.sizeOf5
  v5 := Try.zeroValue5
  t9 := Try.underlying9
  a9 := Try.isAgg9
  z9 := Try.sizeOf9
  v9 := Try.zeroValue9
  t22 := Try.underlying38
  a22 := Try.isAgg38
  z22 := Try.sizeOf38
  v22 := Try.zeroValue38
  t25 := Try.underlying73
  a25 := Try.isAgg73
  z25 := Try.sizeOf73
  v25 := Try.zeroValue73
  t39 := Try.underlying105
  a39 := Try.isAgg105
  z39 := Try.sizeOf105
  v39 := Try.zeroValue105
  t45 := Try.underlying116
  a45 := Try.isAgg116
  z45 := Try.sizeOf116
  v45 := Try.zeroValue116
  t46 := Try.underlying117
  a46 := Try.isAgg117
  z46 := Try.sizeOf117
  v46 := Try.zeroValue117
  t50 := Try.underlying34
  a50 := Try.isAgg34
  z50 := Try.sizeOf34
  v50 := Try.zeroValue34
  t53 := Try.underlying123
  a53 := Try.isAgg123
  z53 := Try.sizeOf123
  v53 := Try.zeroValue123
  t55 := Try.underlying125
  a55 := Try.isAgg125
  z55 := Try.sizeOf125
  v55 := Try.zeroValue125
  t66 := Try.underlying140
  a66 := Try.isAgg140
  z66 := Try.sizeOf140
  v66 := Try.zeroValue140
  t70 := Try.underlying144
  a70 := Try.isAgg144
  z70 := Try.sizeOf144
  v70 := Try.zeroValue144
  t76 := Try.underlying156
  a76 := Try.isAgg156
  z76 := Try.sizeOf156
  v76 := Try.zeroValue156
  t77 := Try.underlying157
  a77 := Try.isAgg157
  z77 := Try.sizeOf157
  v77 := Try.zeroValue157 }
end Go.Proofs

/- Arrays of ints in lexicographic order. In plain Lean. Written by gen_srta.py. -/
set_option linter.unusedVariables false
set_option linter.unusedSimpArgs false
set_option linter.unusedSectionVars false
namespace Go.Proofs.Ytbfhfadfjgfmaaa
open Go.RowKit Go.Sort Go.Shelf
theorem lex_lt (a b : Nat → Int) (n s : Nat) : lexI a b (n + 1) s < 0 ↔ a s < b s ∨ (a s = b s ∧ lexI a b n (s + 1) < 0) := by
  simp only [lexI]
  by_cases h : cmpI (a s) (b s) = 0
  · rw [if_pos h]
    have := (cmpI_zero _ _).1 h
    omega
  · rw [if_neg h, cmpI_neg]
    have : a s ≠ b s := fun e => h ((cmpI_zero _ _).2 e)
    omega
theorem lex_irr (a : Nat → Int) : ∀ n s, ¬ lexI a a n s < 0
  | 0, _ => by simp [lexI]
  | n + 1, s => by rw [lex_lt]; have := lex_irr a n (s + 1); omega
theorem lex_trans (a b c : Nat → Int) : ∀ n s, lexI a b n s < 0 → lexI b c n s < 0 → lexI a c n s < 0
  | 0, _ => by simp [lexI]
  | n + 1, s => by
    rw [lex_lt, lex_lt, lex_lt]
    have := lex_trans a b c n (s + 1)
    omega
theorem lex_ntrans (a b c : Nat → Int) : ∀ n s, ¬ lexI a b n s < 0 → ¬ lexI b c n s < 0 → ¬ lexI a c n s < 0
  | 0, _ => by simp [lexI]
  | n + 1, s => by
    rw [lex_lt, lex_lt, lex_lt]
    have := lex_ntrans a b c n (s + 1)
    omega
theorem lex_total (a b : Nat → Int) : ∀ n s, ¬ lexI a b n s < 0 → ¬ lexI b a n s < 0 → ∀ p, s ≤ p → p < s + n → a p = b p
  | 0, s => fun _ _ p h1 h2 => by omega
  | n + 1, s => by
    rw [lex_lt, lex_lt]
    intro h1 h2 p h3 h4
    by_cases e : p = s
    · subst e; omega
    · exact lex_total a b n (s + 1) (by omega) (by omega) p (by omega) (by omega)
/-- An array of k ints. -/
abbrev AK (k : Nat) := { f : Nat → Int // ∀ p, k ≤ p → f p = 0 }
instance (k : Nat) : Inhabited (AK k) := ⟨⟨fun _ => 0, fun _ _ => rfl⟩⟩
def trimA (k : Nat) (f : Nat → Int) : AK k := ⟨fun p => if p < k then f p else 0, fun p h => if_neg (by omega)⟩
theorem trim_at (k : Nat) (f : Nat → Int) {p : Nat} (h : p < k) : (trimA k f).1 p = f p := if_pos h
theorem ak_ext {k : Nat} {x y : AK k} (h : ∀ p, p < k → x.1 p = y.1 p) : x = y := Subtype.ext (funext fun p => by
  by_cases c : p < k
  · exact h p c
  · rw [x.2 p (by omega), y.2 p (by omega)])
def encA (k : Nat) (x : AK k) : List Value := (List.range k).map (I x.1)
theorem encA_len (k : Nat) (x : AK k) : (encA k x).length = k := by simp [encA]
theorem encA_one (k : Nat) (x : AK k) : ∀ v ∈ encA k x, v.oneCell' = true := fun v hv => by
  simp only [encA, List.mem_map] at hv
  obtain ⟨j, _, rfl⟩ := hv
  rfl
theorem encA_arr (k : Nat) (x : AK k) : (encA k x).toArray = row k (I x.1) := rfl
/-- The lesser first, the greater first. -/
def upA (k : Nat) (x y : AK k) : Int := lexI x.1 y.1 k 0
def downA (k : Nat) (x y : AK k) : Int := lexI y.1 x.1 k 0
theorem up_swo (k : Nat) : Sort.SWO (ltOf (upA k)) where
  irrefl x := decide_eq_false (lex_irr _ _ _)
  trans x y z h1 h2 := decide_eq_true (lex_trans _ _ _ _ _ (of_decide_eq_true h1) (of_decide_eq_true h2))
  ntrans x y z h1 h2 := decide_eq_false (lex_ntrans _ _ _ _ _ (of_decide_eq_false h1) (of_decide_eq_false h2))
theorem down_swo (k : Nat) : Sort.SWO (ltOf (downA k)) where
  irrefl x := decide_eq_false (lex_irr _ _ _)
  trans x y z h1 h2 := decide_eq_true (lex_trans _ _ _ _ _ (of_decide_eq_true h2) (of_decide_eq_true h1))
  ntrans x y z h1 h2 := decide_eq_false (lex_ntrans _ _ _ _ _ (of_decide_eq_false h2) (of_decide_eq_false h1))
theorem up_total (k : Nat) (x y : AK k) (h1 : ltOf (upA k) x y = false) (h2 : ltOf (upA k) y x = false) : x = y :=
  ak_ext fun p hp => lex_total _ _ k 0 (of_decide_eq_false h1) (of_decide_eq_false h2) p (by omega) (by omega)
theorem down_total (k : Nat) (x y : AK k) (h1 : ltOf (downA k) x y = false) (h2 : ltOf (downA k) y x = false) : x = y :=
  ak_ext fun p hp => lex_total _ _ k 0 (of_decide_eq_false h2) (of_decide_eq_false h1) p (by omega) (by omega)
/-- What is a permutation and in order is what the sort answers. -/
theorem sorted_is {k : Nat} {cf : AK k → AK k → Int} (hO : Sort.SWO (ltOf cf)) (hT : ∀ x y, ltOf cf x y = false → ltOf cf y x = false → x = y) {l l' : List (AK k)} (hp : l'.Perm l) (hs : l'.Pairwise (fun x y => ltOf cf y x = false)) : l.mergeSort (fun x y => !(ltOf cf) y x) = l' := by
  refine List.Perm.eq_of_pairwise (le := fun x y => ltOf cf y x = false) (fun x y _ _ h1 h2 => hT x y h2 h1) ?_ hs ((List.mergeSort_perm _ _).trans hp.symm)
  have tr : ∀ a b c : AK k, (!(ltOf cf) b a) = true → (!(ltOf cf) c b) = true → (!(ltOf cf) c a) = true := fun a b c h1 h2 => by
    simp only [Bool.not_eq_true'] at *
    exact hO.ntrans c b a h2 h1
  have to : ∀ a b : AK k, ((!(ltOf cf) b a) || (!(ltOf cf) a b)) = true := fun a b => by
    cases e : ltOf cf b a
    · rfl
    · cases e2 : ltOf cf a b
      · rfl
      · have := hO.trans a b a e2 e
        rw [hO.irrefl] at this
        cases this
  exact (List.pairwise_mergeSort tr to l).imp (fun h => by simpa using h)
theorem grown_sorted {k : Nat} {w : World} {g n : Nat} {os : Array Obj} (d : Array (AK k)) : w.grownBy (sortWorldK (encA k) k w g 0 n d os) (some g) := by
  unfold sortWorldK putRowK
  refine ⟨rfl, rfl, rfl, by simp, fun k hk hne => ?_⟩
  rw [heap_grow_old _ _ (by simpa using hk)]
  have : g ≠ k := fun e => hne (by rw [e])
  simp [putRow, mapBlock, Sort.ahead, Array.getElem?_modify, this]
theorem heap_sortedA {k : Nat} {w : World} {g n : Nat} {os : Array Obj} {cur : Array Value} {e : TypeId} {fr : Nat × Nat} (d : Array (AK k)) (hb : w.heap[g]? = some (.cells cur e fr)) :
    (sortWorldK (encA k) k w g 0 n d os).heap[g]? = some (.cells (putCells id 0 (flatK (encA k) k d) cur) e fr) := by
  unfold sortWorldK putRowK
  have hg : g < w.heap.size := (Array.getElem?_eq_some_iff.1 hb).1
  rw [heap_grow_old _ _ (by simpa using hg)]
  simp [putRow, mapBlock, Sort.ahead, Array.getElem?_modify, hb, onCells]
theorem flatK_at {k : Nat} (hk : 0 < k) (n : Nat) (y : Nat → Nat → Int) {j : Nat} (hj : j < n * k) : (flatK (encA k) k ((List.range n).map fun i => trimA k (y i)).toArray)[j]! = .int .i64 (y (j / k) (j % k)) := by
  have h1 : j / k < n := Nat.div_lt_of_lt_mul (by rw [Nat.mul_comm]; exact hj)
  have h2 : j % k < k := Nat.mod_lt _ hk
  rw [get_flatK _ _ _ _ (by simpa using hj)]
  have e : ((List.range n).map fun i => trimA k (y i)).toArray[j / k]! = trimA k (y (j / k)) := by
    rw [getElem!_pos _ _ (by simpa using h1)]
    simp
  rw [e]
  rw [getElem!_pos _ _ (by rw [encA_len]; exact h2)]
  simp only [encA, List.getElem_map, List.getElem_range, I, trim_at k _ h2]
/-- A row of cells with a list of arrays put ahead. -/
theorem put_row {k : Nat} (hk : 0 < k) (n N : Nat) (F : Nat → Value) (y : Nat → Nat → Int) (hN : n * k ≤ N) : putCells id 0 (flatK (encA k) k ((List.range n).map fun i => trimA k (y i)).toArray) (row N F) = row N (fun j => if j < n * k then .int .i64 (y (j / k) (j % k)) else F j) := by
  apply Array.ext
  · simp [putCells, row_size]
  · intro j h1 h2
    rw [row_size] at h2
    have e2 : (row N (fun j => if j < n * k then Value.int .i64 (y (j / k) (j % k)) else F j))[j]'(by rw [row_size]; exact h2) = if j < n * k then .int .i64 (y (j / k) (j % k)) else F j := by simp [row]
    rw [e2]
    have e3 : (row N F)[j]'(by rw [row_size]; exact h2) = F j := by simp [row]
    by_cases c : j < n * k
    · rw [if_pos c, ← flatK_at hk n y c]
      simp [putCells, c]
    · rw [if_neg c]
      simp [putCells, c, e3]
end Go.Proofs.Ytbfhfadfjgfmaaa

/- slices.SortFunc at [][6]int by compareDice. Written by gen_srta.py. -/
set_option linter.unusedVariables false
set_option linter.unusedSimpArgs false
set_option linter.unusedSectionVars false
namespace Go.Proofs.Ytbfhfadfjgfmaaa
open Go.RowKit Go.Sort Go.Shelf
theorem cmpExact6 (a b : Nat → Int) (w : World) : Calls Try.prog 45 #[.agg (row 6 (I a)), .agg (row 6 (I b))] w fun e w' => e = .returned (.int .i64 (lexI a b 6 0)) ∧ ∃ q os', w' = grow (w.drewN q) os' := by
  go_enter Try.func45, Try.ntmps45
  go_wp2
  go_quiet ((go_at_call 76; exact quiet_eq (sliceCompare_any _ _ 6 _ _ a b (by omega) _ (((Blk.new _ _ 53 _).alloc _).drewN _) ((Blk.newS (by simp)).drewN _))))
  go_wp2
  go_ret
  exact ⟨rfl, _, #[.cells (row 6 (I a)) 53, .cells (row 6 (I b)) 53], by rw [alloc_eq_grow, alloc_eq_grow, grow_grow]; rfl⟩
theorem cmpLays6 (blk off size : Nat) (w : World) : CmpLays Try.prog 45 #[] (encA 6) 6 (upA 6) blk off size w := fun _ _ _ _ x y => cmpExact6 x.1 y.1 _
theorem sortArr6_any (g cap : Nat) (d : Array (AK 6)) (hsz : d.size ≤ 1000) (w : World) (hH : HoldsK (encA 6) 6 w g 0 d) (hg : g < w.heap.size) :
    Calls Try.prog 89 #[.slice (some ⟨g, 0, none⟩) d.size cap, .func (.func 45) #[] #[]] w fun e w' => e = .returned (.tuple #[]) ∧ HoldsK (encA 6) 6 w' g 0 (d.toList.mergeSort fun x y => !(ltOf (upA 6)) y x).toArray ∧ w.grownBy w' (some g) ∧ ∀ cur T, w.heap[g]? = some (.cells cur T (0, 0)) → w'.heap[g]? = some (.cells (putCells id 0 (flatK (encA 6) 6 (d.toList.mergeSort fun x y => !(ltOf (upA 6)) y x).toArray) cur) T (0, 0)) := by
  have eg : ∀ args w, (callFunc 45 args).run Try.prog w = .ok (.enter 45 args) w := enters_of Try.func45 (by kernel_rfl) rfl
  refine (AnyQ.slices_SortFunc_total Try.srt6 6 Try.isAgg53 Try.sizeOf53 (encA 6) (encA_len 6) (encA_one 6) (upA 6) (up_swo 6) 45 #[] g 0 cap d w eg (cmpLays6 _ _ _ _) hH hg (by omega) (up_total 6)).mono ?_
  rintro e w' ⟨rfl, n, os, rfl⟩
  exact ⟨rfl, holdsK_sortWorldK_c (encA 6) 6 w g 0 d _ n os hH hg (by simp), grown_sorted _, fun cur T h => heap_sortedA _ h⟩
end Go.Proofs.Ytbfhfadfjgfmaaa

/- slices.SortedFunc of a pool's dice by compareDice. -/
set_option linter.unusedVariables false
set_option linter.unusedSimpArgs false
set_option linter.unusedSectionVars false
namespace Go.Proofs.Ytbfhfadfjgfmaaa
open Go.RowKit Go.Sort Go.Shelf
theorem flat6_len (xs : List (Nat → Int)) : (flat6 xs).length = xs.length * 6 := by
  induction xs with
  | nil => rfl
  | cons x r ih => rw [show flat6 (x :: r) = (row 6 (I x)).toList ++ flat6 r by simp [flat6], List.length_append, ih]; simp [row]; omega
theorem flat6_at (x : Nat → Nat → Int) : ∀ n j, j < n * 6 → (flat6 ((List.range n).map x))[j]? = some (.int .i64 (x (j / 6) (j % 6)))
  | 0, _, h => by omega
  | n + 1, j, h => by
    rw [upto_succ6, flat6_snoc]
    have hl : (flat6 ((List.range n).map x)).length = n * 6 := by rw [flat6_len]; simp
    by_cases c : j < n * 6
    · rw [List.getElem?_append_left (by omega)]
      exact flat6_at x n j c
    · rw [List.getElem?_append_right (by omega), hl]
      have e1 : j / 6 = n := by omega
      have e2 : j % 6 = j - n * 6 := by omega
      rw [Array.getElem?_toList, row_get (by omega), e1, e2]
      rfl
/-- A pool as a list of dice. -/
def poolL (n : Nat) (x : Nat → Nat → Int) : List (AK 6) := (List.range n).map fun i => trimA 6 (x i)
def flatP (y : Nat → Nat → Int) : Nat → Int := fun q => y (q / 6) (q % 6)
theorem sorted6_any (Bs : Nat) (a : Addr) (n c : Nat) (x y : Nat → Nat → Int) (h1 : 1 ≤ n) (hn : n ≤ 1000) (hy : (poolL n x).mergeSort (fun p q => !(ltOf (upA 6)) q p) = poolL n y) (w : World) (hBs : Bs < w.heap.size) (ha : a.block < w.heap.size) (hc : w.cell? ⟨Bs, 0, none⟩ = some (.slice (some a) n c)) (hD : Dice6 w a n x) :
    Calls Try.prog 43 #[.func (.func 90) #[] #[.pointer (some ⟨Bs, 0, none⟩)], .func (.func 45) #[] #[]] w fun e w' => ∃ (o : Option Addr) (cp : Nat), e = .returned (.slice o n cp) ∧ Arrs w' 53 6 w.heap.size o n cp (flatP y) ∧ Below w.heap.size w w' := by
  have HD := Lib.hid hD; have HC := Lib.hid hc; have HY := Lib.hid hy
  clear hD hc hy
  go_enter Try.func43, Try.ntmps43
  go_wp2_with fail
  go_at_call 88
  refine (collect6_any Bs a n c x hn _ hBs ha HC.out HD.out).mono ?_
  rintro e w1 ⟨v, rfl, ho, hb⟩
  obtain ⟨g, cap, rfl, hg⟩ : ∃ g cap, v = .slice (some ⟨g, 0, none⟩) n cap ∧ w.heap.size ≤ g := by
    rcases ho.2 with ⟨_, h0⟩ | ⟨g, cap, cur, hv, hb, _⟩
    · omega
    · exact ⟨g, cap, hv, hb⟩
  obtain ⟨g', F, he, -, -, hnc, hcm, hB, hx, hgl⟩ := own_form ho (by omega)
  injection he with he
  injection he with he _
  subst he
  have hF : ∀ j, j < n * 6 → F j = .int .i64 (x (j / 6) (j % 6)) := fun j hj => by
    have := hx j hj
    rw [flat6_at x n j hj] at this
    exact (Option.some.inj this).symm
  have hds : (poolL n x).toArray.size = n := by simp [poolL]
  have HH := Lib.hid (show HoldsK (encA 6) 6 w1 g 0 (poolL n x).toArray from fun j hj => by
    rw [size_flatK, hds] at hj
    rw [Nat.zero_add, hB.cell (by omega), hF j hj]
    exact ⟨congrArg some (flatK_at (by omega) n x hj).symm, hB.free _⟩)
  have HB1 := Lib.hid hB; have HB := Lib.hid hb; have HG := Lib.hid hg; have HL := Lib.hid hgl; have NC := Lib.hid hnc; have CM := Lib.hid hcm
  clear hB hb hg ho hx hF hgl hnc hcm
  go_wp2_with fail
  go_at_call 89
  have hS := sortArr6_any g cap (poolL n x).toArray (by rw [hds]; exact hn) w1 HH.out HL.out
  rw [hds] at hS
  refine hS.mono ?_
  rintro e w2 ⟨rfl, -, hG2, hput⟩
  have hput := hput _ _ HB1.out
  rw [show (poolL n x).toArray.toList = poolL n x from rfl, HY.out, show poolL n y = (List.range n).map fun i => trimA 6 (y i) from rfl, put_row (by omega) n _ F y (by have := NC.out; omega)] at hput
  have HP := Lib.hid (show Blk w2 g (cap * 6) 53 _ from hput)
  have HG2 := Lib.hid hG2
  clear hput hG2 hS
  go_wp2
  go_ret
  exact ⟨_, cap, rfl, Arrs.ofBlk HG.out NC.out CM.out HP.out (fun i hi => if_pos hi), below_grown HB.out HG2.out (fun k e => by cases e; exact HG.out) HB.out.size⟩
end Go.Proofs.Ytbfhfadfjgfmaaa

/- Dice in order: what insertion from the left does; the library's sort answers the same. Written by gen_plx.py. -/
set_option linter.unusedVariables false
set_option linter.unusedSimpArgs false
set_option linter.unusedSectionVars false
namespace Go.Proofs.Ytbfhfadfjgfmaaa
open Go.RowKit Go.Sort Go.Shelf
/-- A die comes before another one. -/
def lessD (a b : Nat → Int) : Bool := decide (lexI a b 6 0 < 0)
theorem less_ntrans {a b c : Nat → Int} (h1 : lessD a b = false) (h2 : lessD b c = false) : lessD a c = false := decide_eq_false (lex_ntrans _ _ _ _ _ (of_decide_eq_false h1) (of_decide_eq_false h2))
theorem less_asym {a b : Nat → Int} (h : lessD a b = true) : lessD b a = false := decide_eq_false (fun q => lex_irr a 6 0 (lex_trans a b a _ _ (of_decide_eq_true h) q))
/-- f with v put at place j, what stood from j on one place further, up to place i. -/
def insX (f : Nat → Nat → Int) (i j : Nat) (v : Nat → Int) : Nat → Nat → Int := fun p => if p < j then f p else if p = j then v else if p ≤ i then f (p - 1) else f p
/-- The place, at most j, to which v goes: behind the last that is not less. -/
def posX (f : Nat → Nat → Int) (v : Nat → Int) : Nat → Nat
  | 0 => 0
  | j + 1 => if lessD v (f j) then posX f v j else j + 1
def plX (r : Nat → Nat → Int) : Nat → Nat → Nat → Int
  | 0 => fun _ _ => 0
  | i + 1 => insX (plX r i) i (posX (plX r i) (r i) i) (r i)
theorem posX_le (f : Nat → Nat → Int) (v : Nat → Int) : ∀ j, posX f v j ≤ j
  | 0 => Nat.le_refl _
  | j + 1 => by
    have := posX_le f v j
    simp only [posX]
    split <;> omega
theorem posX_lt (f : Nat → Nat → Int) (v : Nat → Int) : ∀ j q, posX f v j ≤ q → q < j → lessD v (f q) = true
  | 0, _, _, h => by omega
  | j + 1, q, h1, h2 => by
    simp only [posX] at h1
    split at h1
    · rename_i h
      by_cases e : q = j
      · rw [e]; exact h
      · exact posX_lt f v j q h1 (by omega)
    · omega
theorem posX_ge (f : Nat → Nat → Int) (v : Nat → Int) : ∀ j, 0 < posX f v j → lessD v (f (posX f v j - 1)) = false
  | 0, h => by simp [posX] at h
  | j + 1, h => by
    simp only [posX] at h ⊢
    split
    · rename_i c
      rw [if_pos c] at h
      exact posX_ge f v j h
    · rename_i c
      simp only [Nat.add_sub_cancel]
      simpa using c
def UpX (f : Nat → Nat → Int) (n : Nat) : Prop := ∀ q p, q < p → p < n → lessD (f p) (f q) = false
theorem plX_up (r : Nat → Nat → Int) : ∀ n, UpX (plX r n) n
  | 0 => fun q p _ hp => by omega
  | n + 1 => by
    have ih := plX_up r n
    have hle := posX_le (plX r n) (r n) n
    have hlt := posX_lt (plX r n) (r n) n
    have hge := posX_ge (plX r n) (r n) n
    simp only [plX]
    obtain ⟨s, hs⟩ : ∃ s, s = posX (plX r n) (r n) n := ⟨_, rfl⟩
    rw [← hs] at hle hlt hge ⊢
    have before : ∀ q, q < s → lessD (r n) (plX r n q) = false := fun q hq => by
      have h1 := hge (by omega)
      by_cases e : q = s - 1
      · rw [e]; exact h1
      · exact less_ntrans h1 (ih q (s - 1) (by omega) (by omega))
    intro q p hq hp
    unfold insX
    by_cases c1 : p < s
    · rw [if_pos c1, if_pos (show q < s by omega)]
      exact ih q p hq (by omega)
    · rw [if_neg c1]
      by_cases c2 : p = s
      · rw [if_pos c2, if_pos (show q < s by omega)]
        exact before q (by omega)
      · rw [if_neg c2, if_pos (show p ≤ n by omega)]
        by_cases c3 : q < s
        · rw [if_pos c3]
          exact ih q (p - 1) (by omega) (by omega)
        · rw [if_neg c3]
          by_cases c4 : q = s
          · rw [if_pos c4]
            exact less_asym (hlt (p - 1) (by omega) (by omega))
          · rw [if_neg c4, if_pos (show q ≤ n by omega)]
            exact ih (q - 1) (p - 1) (by omega) (by omega)
theorem poolL_len (n : Nat) (x : Nat → Nat → Int) : (poolL n x).length = n := by simp [poolL]
theorem poolL_at (n : Nat) (x : Nat → Nat → Int) {i : Nat} (h : i < n) : (poolL n x)[i]? = some (trimA 6 (x i)) := by simp [poolL, h]
theorem poolL_ins (x : Nat → Nat → Int) (n j : Nat) (v : Nat → Int) (hj : j ≤ n) : poolL (n + 1) (insX x n j v) = (poolL n x).take j ++ trimA 6 v :: (poolL n x).drop j := by
  apply List.ext_getElem?
  intro p
  have hl : ((poolL n x).take j).length = j := by rw [List.length_take, poolL_len]; omega
  by_cases h1 : p < j
  · rw [List.getElem?_append_left (by omega), List.getElem?_take_of_lt h1, poolL_at _ _ (by omega), poolL_at _ _ (by omega)]
    simp only [insX, if_pos h1]
  · rw [List.getElem?_append_right (by omega), hl]
    by_cases h2 : p = j
    · subst h2
      rw [Nat.sub_self, poolL_at _ _ (by omega)]
      simp [insX]
    · obtain ⟨q, rfl⟩ : ∃ q, p = q + 1 := ⟨p - 1, by omega⟩
      rw [show q + 1 - j = (q - j) + 1 by omega, List.getElem?_cons_succ, List.getElem?_drop, show j + (q - j) = q by omega]
      by_cases h3 : q < n
      · rw [poolL_at _ _ (by omega), poolL_at _ _ h3]
        simp only [insX]
        rw [if_neg (by omega), if_neg h2, if_pos (by omega)]
        rfl
      · rw [List.getElem?_eq_none (by rw [poolL_len]; omega), List.getElem?_eq_none (by rw [poolL_len]; omega)]
theorem plX_perm (x : Nat → Nat → Int) : ∀ n, (poolL n (plX x n)).Perm (poolL n x)
  | 0 => List.Perm.refl _
  | n + 1 => by
    have ih := plX_perm x n
    simp only [plX]
    rw [poolL_ins _ _ _ _ (posX_le _ _ _)]
    have e : poolL (n + 1) x = poolL n x ++ [trimA 6 (x n)] := by simp [poolL, List.range_succ]
    rw [e]
    refine List.Perm.trans List.perm_middle ?_
    rw [List.take_append_drop]
    exact (List.Perm.cons _ ih).trans (List.perm_append_singleton _ _).symm
theorem lessD_trim (a b : Nat → Int) : ltOf (upA 6) (trimA 6 a) (trimA 6 b) = lessD a b := by
  unfold ltOf upA lessD
  congr 2
theorem pool_sorted (n : Nat) (x : Nat → Nat → Int) : (poolL n x).mergeSort (fun p q => !(ltOf (upA 6)) q p) = poolL n (plX x n) := by
  refine sorted_is (up_swo 6) (up_total 6) (plX_perm x n) ?_
  rw [poolL, List.pairwise_map]
  rw [List.pairwise_iff_getElem]
  intro q p hq hp hlt
  simp only [List.getElem_range]
  rw [lessD_trim]
  simp only [List.length_range] at hp
  exact plX_up x n q p hlt hp
end Go.Proofs.Ytbfhfadfjgfmaaa

/- The program's SortPool. -/
set_option linter.unusedVariables false
set_option linter.unusedSimpArgs false
set_option linter.unusedSectionVars false
namespace Go.Proofs.Ytbfhfadfjgfmaaa
open Go.RowKit
noncomputable def srtN (n : Nat) (x : Nat → Nat → Int) : Nat := if poolB n x then n else 0
theorem srtN_le (n : Nat) (x : Nat → Nat → Int) : srtN n x ≤ 1000000 := by
  unfold srtN
  cases g : poolB n x
  · exact Nat.zero_le _
  · have := pool_le g
    simp only [if_true]
    omega
theorem iSortPool_any (o : Option Addr) (n c : Nat) (x : Nat → Nat → Int) (hn : n ≤ 1048576) (w : World) (h : PoolAt w o n x) : Calls Try.prog 13 #[poolV o n c] w fun e w' => ∃ A cp, e = .returned (.tuple #[.slice A (srtN n x) cp, .bool (poolB n x)]) ∧ Arrs w' 53 6 w.heap.size A (srtN n x) cp (flatP (plX x n)) ∧ Below w.heap.size w w' := by
  have H := Lib.hid h; clear h
  cases g1 : poolB n x
  · have HV := Lib.hid (show srtN n x = 0 by unfold srtN; rw [g1]; rfl)
    rw [HV.out]
    go_enter Try.func13, Try.ntmps13
    go_wp2_with fail
    go_at_call 42
    refine (isPool_any o n c x hn _ H.out).mono ?_
    rintro e w1 ⟨rfl, hb1⟩
    have HB1 := Lib.hid hb1; clear hb1
    rw [g1]
    go_wp2
    go_ret2
    exact ⟨none, 0, rfl, Arrs.nil _ _ _ _ _, HB1.out⟩
  · have HV := Lib.hid (show srtN n x = n by unfold srtN; rw [g1]; rfl)
    obtain ⟨n1, n4⟩ := pool_le g1
    rw [HV.out]
    go_enter Try.func13, Try.ntmps13
    go_wp2_with fail
    go_at_call 42
    refine (isPool_any o n c x hn _ H.out).mono ?_
    rintro e w1 ⟨rfl, hb1⟩
    have HB1 := Lib.hid hb1; clear hb1
    have P1 := Lib.hid (H.out.below HB1.out)
    rw [g1]
    clear g1
    obtain ⟨a, ha, hD⟩ := dice6 P1.out (show 0 < n by omega)
    subst ha
    have hbl : a.block < w1.heap.size := (hD 0 (by omega)).1 |> fun h => by rw [add_block] at h; exact h
    generalize hW : w1.alloc (.cells #[.slice (some a) n c] 22) = W2
    have C2 := Lib.hid (show W2.cell? ⟨w1.heap.size, 0, none⟩ = some (.slice (some a) n c) from hW ▸ (Blk.newAt (n := 1) (f := fun _ => .slice (some a) n c) rfl rfl).cell (by omega))
    have L2 := Lib.hid (show w1.heap.size < W2.heap.size by rw [← hW]; simp)
    have HB2 := Lib.hid (show Below w.heap.size w W2 from hW ▸ HB1.out.alloc HB1.out.size _)
    have D2 := Lib.hid (show Dice6 W2 a n x from fun k hk => by
      obtain ⟨b1, b2⟩ := hD k hk
      refine ⟨by have := L2.out; omega, fun j hj => ?_⟩
      rw [← hW, Below.cell ((Below.refl w1.heap.size w1).alloc (Nat.le_refl _) _) (by rw [add_block]; exact b1)]
      exact b2 j hj)
    have HBL := Lib.hid (show a.block < W2.heap.size by have := L2.out; omega)
    have HW2 := Lib.hid hW
    clear hD hbl hW
    go_wp2_with fail
    go_at_call 44
    refine (values6_any (some a) n c _).mono ?_
    rintro e w2 ⟨rfl, rfl⟩
    rw [HW2.out]
    go_wp2_with fail
    go_at_call 43
    refine (sorted6_any w1.heap.size a n c x (plX x n) n1 (by omega) (pool_sorted n x) _ L2.out HBL.out C2.out D2.out).mono ?_
    rintro e w3 ⟨o3, cp, rfl, hA, hb3⟩
    have A3 := Lib.hid (hA.base HB2.out.size); have HB3 := Lib.hid (HB2.out.trans (hb3.mono HB2.out.size))
    clear hA hb3
    go_wp2
    go_ret2
    exact ⟨o3, cp, rfl, A3.out, HB3.out⟩
end Go.Proofs.Ytbfhfadfjgfmaaa

/- The reference's l2Own and SortPool. Written by gen_srts.py out of the text for numbers. -/
set_option linter.unusedVariables false
set_option linter.unusedSimpArgs false
set_option linter.unusedSectionVars false
namespace Go.Proofs.Ytbfhfadfjgfmaaa
open Go.RowKit
theorem wpList_append_arrs6 {ops : Array Oper} {rest : List Oper} {o : Oper} {a : Act} {w : World} {Q : Exit → Act → World → Prop} (hgd : o.guard = none) {s x : Operand} {S : TypeId} (hS : Try.prog.underlying S = some (.slice 53))
    (ho : o.op = .call { callee := .builtin .append, args := #[s, x], argTypes := #[S, S] }) {B m c k cx : Nat} {a0 : Addr} {A : Option Addr} {f z : Nat → Int} (hs : a.eval s = .slice A m c) (hx : a.eval x = .slice (some a0) k cx)
    (hz : ∀ j, j < k * 6 → w.cell? (a0.add j) = some (.int .i64 (z j))) (hf : ∀ j, j < k * 6 → f (m * 6 + j) = z j) (hown : Arrs w 53 6 B A m c f) (hm : m + k ≤ 1000000) (hB : B ≤ w.heap.size)
    (h : ∀ A' c' w', Arrs w' 53 6 B A' (m + k) c' f → w.grownBy w' (Value.ownBlock (.slice A m c)) → wpList Try.prog ops Q rest (a.put o.dst (.slice A' (m + k) c')) w') : wpList Try.prog ops Q (o :: rest) a w := by
  obtain ⟨i, hi, h0, h1, h2⟩ := info_get infoA6
  refine wpList_append_own w hgd s x S ho B 53 i (.agg (row 6 (I fun _ => 0))) 6 48 hS hi h0 h1 h2 (row_size _ _) (by decide) _ m (intL f (m * 6)) hs hown a0 k cx (intL z (k * 6)) hx (intL_len _ _) ?_ ?_ ?_ ?_ hB ?_
  · intro j u hu
    have hj : j < k * 6 := by
      by_cases q : j < k * 6
      · exact q
      · rw [List.getElem?_eq_none (by rw [intL_len]; omega)] at hu; cases hu
    rw [intL_get z hj] at hu
    rw [hz j hj]
    exact hu
  · intro u hu
    simp only [intL, List.mem_map] at hu
    obtain ⟨j, _, rfl⟩ := hu
    rfl
  · unfold maxLen; omega
  · omega
  · intro v' w' hw' hg hn
    have e : intL f (m * 6) ++ intL z (k * 6) = intL f ((m + k) * 6) := by
      apply List.ext_getElem?
      intro p
      by_cases q1 : p < m * 6
      · rw [List.getElem?_append_left (by rw [intL_len]; exact q1), intL_get f q1, intL_get f (by omega)]
      · rw [List.getElem?_append_right (by rw [intL_len]; omega), intL_len]
        by_cases q2 : p < (m + k) * 6
        · rw [intL_get z (by omega), intL_get f q2, ← hf (p - m * 6) (by omega), show m * 6 + (p - m * 6) = p by omega]
        · rw [List.getElem?_eq_none (by rw [intL_len]; omega), List.getElem?_eq_none (by rw [intL_len]; omega)]
    rw [e] at hw'
    obtain ⟨o', c', rfl⟩ : ∃ o' c', v' = .slice o' (m + k) c' := by
      rcases hw'.2 with ⟨rfl, h00⟩ | ⟨g', cap, cur, rfl, _⟩
      · exact ⟨none, 0, by rw [h00]⟩
      · exact ⟨_, _, rfl⟩
    exact h _ _ w' hw' hg
theorem sizeA6 (w : World) : (sizeOf 53).run Try.prog w = .ok 6 w := by kernel_rfl
theorem elemA6 : Try.prog.elem 22 = 53 := by kernel_rfl
theorem slice_to6 (g i cp m : Nat) (h : m ≤ cp) (w : World) : (Instr.sliceAt 22 (.slice (some ⟨g, 0, none⟩) i cp) none (some (.int .i64 (m : Int))) none).run Try.prog w = .ok (.slice (some ⟨g, 0, none⟩) m cp) w := by
  rw [run_sliceAt_slice (P := Try.prog) w 22 _ _ _ _ (by kernel_rfl)]
  rw [run_slice_h (P := Try.prog) w 22 (some ⟨g, 0, none⟩) i cp (by kernel_rfl) .i64 (m : Int) (by omega) (by omega), elemA6, sizeA6]
  simp [sliced, addr_add]
theorem slice_from6 (g i cp m : Nat) (h : m ≤ cp) (h2 : m ≤ i) (w : World) : (Instr.sliceAt 22 (.slice (some ⟨g, 0, none⟩) i cp) (some (.int .i64 (m : Int))) none none).run Try.prog w = .ok (.slice (some ⟨g, if cp = m then 0 else m * 6, none⟩) (i - m) (cp - m)) w := by
  rw [run_sliceAt_slice (P := Try.prog) w 22 _ _ _ _ (by kernel_rfl)]
  rw [run_slice_l (P := Try.prog) w 22 (some ⟨g, 0, none⟩) i cp (by kernel_rfl) .i64 (m : Int) (by omega) (by omega), elemA6, sizeA6]
  simp only [sliced, Result.andThen_ok, Int.toNat_natCast, Option.map_some, addr_add, Nat.zero_add]
  by_cases e : cp = m
  · rw [if_pos e, if_pos e]
  · rw [if_neg e, if_neg e]
theorem insX_lt {r : Nat → Nat → Int} {i p : Nat} (h : p < posX (plX r i) (r i) i) : plX r i p = plX r (i + 1) p := by
  simp only [plX, insX]; rw [if_pos h]
theorem insX_at {r : Nat → Nat → Int} {i : Nat} : plX r (i + 1) (posX (plX r i) (r i) i) = r i := by
  simp only [plX, insX]; rw [if_neg (by omega), if_pos True.intro]
theorem insX_gt {r : Nat → Nat → Int} {i p : Nat} (h : posX (plX r i) (r i) i ≤ p) (h2 : p < i) : plX r (i + 1) (p + 1) = plX r i p := by
  simp only [plX, insX]; rw [if_neg (by omega), if_neg (by omega), if_pos (by omega)]; rfl
theorem flatP_at (y : Nat → Nat → Int) {k j : Nat} (hj : j < 6) : flatP y (k * 6 + j) = y k j := by
  unfold flatP
  rw [show (k * 6 + j) / 6 = k by omega, show (k * 6 + j) % 6 = j by omega]
set_option maxHeartbeats 1000000 in
theorem l2Own_any (a0 : Addr) (n c : Nat) (f : Nat → Int) (hn : n ≤ 1000) (w : World) (h : ∀ j, j < n * 6 → w.cell? (a0.add j) = some (.int .i64 (f j))) : Calls Try.prog 40 #[.slice (some a0) n c] w fun e w' => ∃ o' c', e = .returned (.slice o' n c') ∧ Arrs w' 53 6 w.heap.size o' n c' f ∧ Below w.heap.size w w' := by
  have Z1 := Lib.hid (Arrs.empty w 53 6 w.heap.size f (Nat.le_refl _))
  have Z2 := Lib.hid (show ∀ j, j < n * 6 → (w.alloc (.cells #[] 53)).cell? (a0.add j) = some (.int .i64 (f j)) from fun j hj => by
    have := h j hj
    rw [Below.cell ((Below.refl _ _).alloc (Nat.le_refl _) _) (World.block_lt_of_cell? w _ this)]
    exact this)
  have Z3 := Lib.hid (show w.heap.size ≤ (w.alloc (.cells #[] 53)).heap.size by simp)
  have Z4 := Lib.hid (show 0 + n ≤ 1000000 by omega)
  clear h
  go_enter Try.func40, Try.ntmps40
  go_wp2_with (first | (((with_reducible apply (wpList_append_arrs6 (f := f) (z := f))); (case hgd => rfl); (case ho => rfl); (case hs => rfl); (case hx => rfl); (case hS => exact Try.underlying22); (case hown => exact Z1.out); (case hz => exact Z2.out); (case hf => exact fun j hj => by rw [Nat.zero_mul, Nat.zero_add]); (case hm => exact Z4.out); (case hB => exact Z3.out); intro A2 c2 w2 hI2 hg2)) | fail)
  rw [Nat.zero_add] at hI2
  have HI2 := Lib.hid hI2; have HG2 := Lib.hid hg2
  clear hI2 hg2
  go_ret
  exact ⟨A2, c2, rfl, HI2.out, below_grown ((Below.refl _ _).alloc (Nat.le_refl _) _) HG2.out (fun g e => (World.ownsRow.lt Z1.out g e).1) (by simp)⟩
def RX (W0 : World) (m i : Nat) (v : Nat → Int) (f : Nat → Int) (s : Nat → Bool) (q : RG) (w : World) : Prop :=
  Grew W0 w ∧ (s 3 = true → s 9 = false → Arrs w 53 6 W0.heap.size q.a m q.ca f) ∧ (s 8 = true → s 9 = false → ∀ j, j < 6 → w.cell? ⟨q.b, j, none⟩ = some (.int .i64 (v j))) ∧ (s 9 = true → s 13 = false → Arrs w 53 6 W0.heap.size q.d (m + 1) q.cd f) ∧ (s 13 = true → s 9 = true ∧ Arrs w 53 6 W0.heap.size q.e (m + 1 + (i - m)) q.ce f) ∧ (s 14 = true → ∀ k, k < 14 → s k = true)
namespace RX
variable {W0 w w' : World} {m i j : Nat} {v : Nat → Int} {f : Nat → Int} {s : Nat → Bool} {q : RG}
theorem init (q : RG) : RX W0 m i v f (fun _ => false) q W0.drew := ⟨⟨rfl, rfl, rfl, Nat.le_refl _, fun _ _ => rfl⟩, (by intro h; cases h), (by intro h; cases h), (by intro h; cases h), (by intro h; cases h), (by intro h; cases h)⟩
theorem no14 (h : RX W0 m i v f s q w) (hs : s j = false) (hj : j < 14) : s 14 = false := by
  cases e : s 14
  · rfl
  · have := h.2.2.2.2.2 e j hj
    rw [hs] at this; cases this
theorem keep (h : RX W0 m i v f s q w) (h14 : s 14 = false) (hj : j ≠ 14) (h3 : j ≠ 3) (h8 : j ≠ 8) (h9 : j ≠ 9) (h13 : j ≠ 13) : RX W0 m i v f (upd s j true) q w := by
  refine ⟨h.1, fun h1 h2 => h.2.1 ?_ ?_, fun h1 h2 => h.2.2.1 ?_ ?_, fun h1 h2 => h.2.2.2.1 ?_ ?_, fun h1 => ?_, fun h1 => ?_⟩
  · simpa [upd, h3.symm] using h1
  · simpa [upd, h9.symm] using h2
  · simpa [upd, h8.symm] using h1
  · simpa [upd, h9.symm] using h2
  · simpa [upd, h9.symm] using h1
  · simpa [upd, h13.symm] using h2
  · have := h.2.2.2.2.1 (by simpa [upd, h13.symm] using h1)
    exact ⟨by simp [upd, this.1], this.2⟩
  · have : s 14 = true := by simpa [upd, hj.symm] using h1
    rw [h14] at this; cases this
theorem fin14 (h : RX W0 m i v f s q w) (ha : ∀ k, k < 14 → s k = true) : RX W0 m i v f (upd s 14 true) q w := by
  refine ⟨h.1, fun h1 h2 => h.2.1 ?_ ?_, fun h1 h2 => h.2.2.1 ?_ ?_, fun h1 h2 => h.2.2.2.1 ?_ ?_, fun h1 => ?_, fun _ k hk => ?_⟩
  · simpa [upd] using h1
  · simpa [upd] using h2
  · simpa [upd] using h1
  · simpa [upd] using h2
  · simpa [upd] using h1
  · simpa [upd] using h2
  · have := h.2.2.2.2.1 (by simpa [upd] using h1)
    exact ⟨by simp [upd, this.1], this.2⟩
  · simp only [upd]; rw [if_neg (by omega)]; exact ha k hk
theorem own (h : RX W0 m i v f s q w) (h14 : s 14 = false) (hb : Below w.heap.size w w') {o : Option Addr} {c : Nat} (hI : Arrs w' 53 6 w.heap.size o m c f) : RX W0 m i v f (upd s 3 true) { q with a := o, ca := c } w' :=
  ⟨h.1.below.trans (hb.mono h.1.below.size), fun _ _ => hI.base h.1.below.size, fun h1 h2 j hj => by
    have := h.2.2.1 (by simpa [upd] using h1) (by simpa [upd] using h2) j hj
    exact (Below.cell hb (World.block_lt_of_cell? w _ this)).trans this, fun h1 h2 => (h.2.2.2.1 (by simpa [upd] using h1) (by simpa [upd] using h2)).below hb, fun h1 => by
    have := h.2.2.2.2.1 (by simpa [upd] using h1)
    exact ⟨by simpa [upd] using this.1, this.2.below hb⟩, fun h1 => by have : s 14 = true := (by simpa [upd] using h1); rw [h14] at this; cases this⟩
theorem box (h : RX W0 m i v f s q w) (h14 : s 14 = false) : RX W0 m i v f (upd s 8 true) { q with b := w.heap.size } (w.alloc (.cells (row 6 (I v)) 53)) := by
  have hb : Below w.heap.size w (w.alloc (.cells (row 6 (I v)) 53)) := (Below.refl _ _).alloc (Nat.le_refl _) _
  exact ⟨h.1.below.trans (hb.mono h.1.below.size), fun h1 h2 => (h.2.1 (by simpa [upd] using h1) (by simpa [upd] using h2)).below hb, fun _ _ j hj => (Blk.new w 6 53 (I v)).cell hj, fun h1 h2 => (h.2.2.2.1 (by simpa [upd] using h1) (by simpa [upd] using h2)).below hb, fun h1 => by
    have := h.2.2.2.2.1 (by simpa [upd] using h1)
    exact ⟨by simpa [upd] using this.1, this.2.below hb⟩, fun h1 => by have : s 14 = true := (by simpa [upd] using h1); rw [h14] at this; cases this⟩
theorem app9 (h : RX W0 m i v f s q w) (h14 : s 14 = false) (hs : s 9 = false) {o : Option Addr} {c : Nat} (hI : Arrs w' 53 6 W0.heap.size o (m + 1) c f) (hA : Arrs w 53 6 W0.heap.size q.a m q.ca f) (hg : w.grownBy w' (Value.ownBlock (.slice q.a m q.ca))) : RX W0 m i v f (upd s 9 true) { q with d := o, cd := c } w' :=
  ⟨below_grown h.1.below hg (fun g e => (World.ownsRow.lt hA g e).1) h.1.below.size, fun _ h2 => by simp [upd] at h2, fun _ h2 => by simp [upd] at h2, fun _ _ => hI, (fun h1 => by
    have := (h.2.2.2.2.1 (by simpa [upd] using h1)).1
    rw [hs] at this
    cases this), fun h1 => by have : s 14 = true := (by simpa [upd] using h1); rw [h14] at this; cases this⟩
theorem app13 (h : RX W0 m i v f s q w) (h14 : s 14 = false) (h9 : s 9 = true) (hs : s 13 = false) {o : Option Addr} {c : Nat} (hI : Arrs w' 53 6 W0.heap.size o (m + 1 + (i - m)) c f) (hA : Arrs w 53 6 W0.heap.size q.d (m + 1) q.cd f) (hg : w.grownBy w' (Value.ownBlock (.slice q.d (m + 1) q.cd))) : RX W0 m i v f (upd s 13 true) { q with e := o, ce := c } w' :=
  ⟨below_grown h.1.below hg (fun g e => (World.ownsRow.lt hA g e).1) h.1.below.size, fun _ h2 => by simp [upd, h9] at h2, fun _ h2 => by simp [upd, h9] at h2, fun _ h2 => by simp [upd] at h2, fun _ => ⟨by simpa [upd] using h9, hI⟩, fun h1 => by have : s 14 = true := (by simpa [upd] using h1); rw [h14] at this; cases this⟩
end RX
end Go.Proofs.Ytbfhfadfjgfmaaa

/- The reference's SortPool. Written by gen_srtt.py. -/
set_option linter.unusedVariables false
set_option linter.unusedSimpArgs false
set_option linter.unusedSectionVars false
namespace Go.Proofs.Ytbfhfadfjgfmaaa
open Go.RowKit
theorem dice_grew {w w' : World} {a : Addr} {n : Nat} {x : Nat → Nat → Int} (h : Dice6 w a n x) (hG : Grew w w') : Dice6 w' a n x := fun k hk => ⟨Nat.lt_of_lt_of_le (h k hk).1 hG.below.size, fun j hj => by rw [hG.below.cell (by rw [add_block]; exact (h k hk).1)]; exact (h k hk).2 j hj⟩
set_option maxRecDepth 100000 in
set_option maxHeartbeats 4000000 in
theorem sSortPool_any (o : Option Addr) (N cN : Nat) (x : Nat → Nat → Int) (hn : N ≤ 1048576) (w : World) (h : PoolAt w o N x) : Calls Try.prog 11 #[poolV o N cN] w fun e w' => ∃ A cp, e = .returned (.tuple #[.slice A (srtN N x) cp, .bool (poolB N x)]) ∧ Arrs w' 53 6 w.heap.size A (srtN N x) cp (flatP (plX x N)) ∧ Below w.heap.size w w' := by
  have H := Lib.hid h; clear h
  cases g1 : poolB N x
  · have HV := Lib.hid (show srtN N x = 0 by unfold srtN; rw [g1]; rfl)
    rw [HV.out]
    go_enter Try.func11, Try.ntmps11
    go_wp2_with fail
    generalize hW : w.alloc (.cells #[] 53) = W0
    have Z0 := Lib.hid (show Arrs W0 53 6 w.heap.size (some ⟨w.heap.size, 0, none⟩) 0 0 (flatP (plX x N)) from hW ▸ Arrs.empty w 53 6 w.heap.size _ (Nat.le_refl _))
    have HB0 := Lib.hid (show Below w.heap.size w W0 from hW ▸ (Below.refl _ _).alloc (Nat.le_refl _) _)
    have P0 := Lib.hid (H.out.below HB0.out)
    clear hW
    go_at_call 38
    refine (l2Pool_any o N cN x hn _ P0.out).mono ?_
    rintro e w1 ⟨rfl, hb⟩
    have Z1 := Lib.hid (Z0.out.below hb); have HB1 := Lib.hid (HB0.out.trans (hb.mono HB0.out.size))
    clear hb
    rw [g1]
    go_wp2
    go_ret2
    exact ⟨_, 0, rfl, Z1.out, HB1.out⟩
  · have HV := Lib.hid (show srtN N x = N by unfold srtN; rw [g1]; rfl)
    obtain ⟨n1, n4⟩ := pool_le g1
    rw [HV.out]
    go_enter Try.func11, Try.ntmps11
    go_wp2_with fail
    generalize hW : w.alloc (.cells #[] 53) = W0
    have Z0 := Lib.hid (show Arrs W0 53 6 w.heap.size (some ⟨w.heap.size, 0, none⟩) 0 0 (flatP (plX x 0)) from hW ▸ Arrs.empty w 53 6 w.heap.size _ (Nat.le_refl _))
    have HB0 := Lib.hid (show Below w.heap.size w W0 from hW ▸ (Below.refl _ _).alloc (Nat.le_refl _) _)
    have P0 := Lib.hid (H.out.below HB0.out)
    clear hW
    go_at_call 38
    refine (l2Pool_any o N cN x hn _ P0.out).mono ?_
    rintro e w1 ⟨rfl, hb⟩
    have Z1 := Lib.hid (Z0.out.below hb); have HB1 := Lib.hid (HB0.out.trans (hb.mono HB0.out.size)); have P1 := Lib.hid (P0.out.below hb)
    clear hb Z0 HB0 P0
    rw [g1]
    clear g1
    obtain ⟨pa, ha, hD⟩ := dice6 P1.out (show 0 < N by omega)
    subst ha
    have D1 := Lib.hid hD
    clear hD P1 H
    go_wp2
    go_loopw [4, 5] (fun v i wr => ∃ k : Nat, k ≤ N ∧ i = .int .i64 (k : Int) ∧ (∃ g cp, v = .slice (some ⟨g, 0, none⟩) k cp ∧ k ≤ cp ∧ Arrs wr 53 6 w.heap.size (some ⟨g, 0, none⟩) k cp (flatP (plX x k))) ∧ Dice6 wr pa N x ∧ Below w.heap.size w wr) (fun v i _ => N - (RowKit.intOf i).toNat)
    case atStart => exact ⟨0, by omega, rfl, ⟨_, 0, rfl, Nat.le_refl _, Z1.out⟩, D1.out, HB1.out⟩
    case round =>
      obtain ⟨i, hi, rfl, ⟨g, cp, rfl, hcp, hI⟩, hD, hb⟩ := hrel
      have HI := Lib.hid hI; have HB := Lib.hid hb; have DD := Lib.hid hD
      clear hI hb hD Z1 D1 HB1
      by_cases hlt : i < N
      · have d0 : decide (i < N) = true := by simp; omega
        obtain ⟨wo, rfl⟩ : ∃ wo : World, wo = wr := ⟨_, rfl⟩
        go_wp2
        go_loopw [6] (fun t wr => ∃ j : Nat, j ≤ i ∧ t = .int .i64 (j : Int) ∧ Hid (posX (plX x i) (x i) i = posX (plX x i) (x i) j) ∧ Arrs wr 53 6 w.heap.size (some ⟨g, 0, none⟩) i cp (flatP (plX x i)) ∧ Dice6 wr pa N x ∧ Below w.heap.size w wr) (fun t _ => (RowKit.intOf t).toNat)
        case atStart => exact ⟨i, Nat.le_refl _, rfl, rfl, HI.out, DD.out, HB.out⟩
        case round =>
          obtain ⟨j, hj, rfl, HP, hI, hD, hb⟩ := hrel
          clear HI HB DD
          have HI := Lib.hid hI; have HB := Lib.hid hb; have DD := Lib.hid hD
          clear hI hb hD
          have HM := Lib.hid (show j ≤ 1000 by omega)
          have HM1 := Lib.hid (show j + 1 ≤ 1000000 by omega)
          have HM2 := Lib.hid (show j + 1 + (i - j) ≤ 1000000 by omega)
          have HLE := Lib.hid (show j ≤ cp by omega)
          have HLE2 := Lib.hid hj
          have HIL := Lib.hid (show j + 1 + (i - j) = i + 1 by omega)
          by_cases hj0 : 0 < j
          · obtain ⟨q, hq⟩ : ∃ q : Nat, (j : Int) - 1 = (q : Int) := ⟨j - 1, by omega⟩
            have HJ := Lib.hid (show j = q + 1 by omega)
            have d3 : decide ((0 : Int) < (j : Int)) = true := by simp; omega
            have hqi : q < i := by omega
            have KC := Lib.hid (show ∀ k, k < 6 → wr.cell? ((⟨g, q * 6, none⟩ : Addr).add k) = some (I (plX x i q) k) from fun k hk => by
              obtain ⟨g2, e2, _, _, c1⟩ := HI.out.cells (k := q) (by omega)
              obtain rfl : g = g2 := by injection e2 with e2; injection e2
              rw [c1 k hk]
              simp only [I, flatP_at _ hk])
            have KL := Lib.hid (show g < wr.heap.size by
              obtain ⟨g2, e2, _, h3, _⟩ := HI.out.cells (k := q) (by omega)
              obtain rfl : g = g2 := by injection e2 with e2; injection e2
              exact h3)
            go_wp2
            refine wp_region_grown_lit (by kernel_rfl) (by kernel_rfl) ?_
            repeat (first | go_big_quiet_skip | (go_big_quiet_want; (first | (refine grown_load_pool _ rfl (DD.out) rfl ?_ ?_; omega; simp only [Act.put, List.setIfInBounds_toArray, List.set_cons_succ, List.set_cons_zero]; go_big_quiet_on) | (refine grown_load_cells 53 _ rfl rfl (KL.out) (KC.out) Try.isAgg53 sz6 ?_; simp only [Act.put, List.setIfInBounds_toArray, List.set_cons_succ, List.set_cons_zero]; go_big_quiet_on) | (go_big_quiet_op; (first | go_big_quiet_on | (refine ⟨_, fun _ _ => rfl, ?_⟩; go_big_quiet_on) | (apply Exists.intro; refine ⟨fun _ hC => ?_, ?_⟩; (first | (go_at_call 39; with_reducible exact grown_of hC (l2Before_any (x i) (plX x i q) _))); go_big_quiet_on))))))
            refine wpQuiet_nil ?_
            intro wg hg
            clear KC KL
            have I0 := Lib.hid (HI.out.below hg.below); have D0 := Lib.hid (dice_grew DD.out hg); have HB0 := Lib.hid (HB.out.trans (hg.below.mono HB.out.size))
            clear hg HI HB DD
            cases hls : lessD (x i) (plX x i q)
            · have b1 : decide (lexI (x i) (plX x i q) 6 0 < 0) = false := hls
              have HM0 := Lib.hid (show posX (plX x i) (x i) i = j by rw [HP.out, HJ.out]; simp only [posX, hls]; rfl)
              have HLT := Lib.hid (fun p (hp : p < j * 6) => show flatP (plX x i) p = flatP (plX x (i + 1)) p by unfold flatP; rw [insX_lt (show p / 6 < posX (plX x i) (x i) i by rw [HM0.out]; omega)])
              have HAT := Lib.hid (show plX x (i + 1) j = x i by have := insX_at (r := x) (i := i); rw [HM0.out] at this; exact this)
              have HGT := Lib.hid (fun p (h1 : j * 6 ≤ p) (h2 : p < i * 6) => show flatP (plX x (i + 1)) (p + 6) = flatP (plX x i) p by unfold flatP; rw [show (p + 6) / 6 = p / 6 + 1 by omega, show (p + 6) % 6 = p % 6 by omega, insX_gt (show posX (plX x i) (x i) i ≤ p / 6 by rw [HM0.out]; omega) (by omega)])
              clear hls hq
              rw [b1]
              go_wp2
              obtain ⟨m, rfl⟩ : ∃ m, m = j := ⟨_, rfl⟩
              generalize hW0 : wg = W0 at I0 D0 HB0 ⊢
              clear hW0
              have CO := Lib.hid (fun (w' : World) (hG : Grew W0 w') (p : Nat) (hp : p < i * 6) => show w'.cell? ⟨g, p, none⟩ = some (.int .i64 (flatP (plX x i) p)) by
                obtain ⟨g2, e2, _, _, c1⟩ := (I0.out.below hG.below).cell (k := p / 6) (j := p % 6) (by omega) (by omega)
                obtain rfl : g = g2 := by injection e2 with e2; injection e2
                rw [show p / 6 * 6 + p % 6 = p by omega] at c1
                exact c1)
              have CR := Lib.hid (fun (w' : World) (hG : Grew W0 w') (k : Nat) (hk : k < 6) => show w'.cell? ((pa.add (i * 6)).add k) = some (I (x i) k) by
                rw [hG.below.cell (by rw [add_block]; exact (D0.out i hlt).1)]
                exact (D0.out i hlt).2 k hk)
              obtain ⟨off, hoff⟩ : ∃ off, off = (if cp = m then 0 else m * 6) := ⟨_, rfl⟩
              have HSF := Lib.hid (fun w => show (Instr.sliceAt 22 (.slice (some ⟨g, 0, none⟩) i cp) (some (.int .i64 (m : Int))) none none).run Try.prog w = .ok (.slice (some ⟨g, off, none⟩) (i - m) (cp - m)) w by rw [hoff]; exact slice_from6 g i cp m HLE.out HLE2.out w)
              have HOF := Lib.hid (fun (h : m < i) => show off = m * 6 by rw [hoff, if_neg (by omega)])
              clear hoff
              refine wp_region_steps (by kernel_rfl) (by kernel_rfl) (fun q : RG => [(0, 36, .slice (some ⟨g, 0, none⟩) i cp), (1, 37, .int .i64 (m : Int)), (2, 38, .slice (some ⟨g, 0, none⟩) m cp), (3, 39, .slice q.a m q.ca), (4, 40, .slice (some pa) N cN), (5, 41, .int .i64 (i : Int)), (6, 42, .pointer (some (pa.add (i * 6)))), (7, 43, .agg (row 6 (I (x i)))), (8, 44, .slice (some ⟨q.b, 0, none⟩) 1 1), (9, 45, .slice q.d (m + 1) q.cd), (10, 46, .slice (some ⟨g, 0, none⟩) i cp), (11, 47, .int .i64 (m : Int)), (12, 48, .slice (some ⟨g, off, none⟩) (i - m) (cp - m)), (13, 49, .slice q.e (m + 1 + (i - m)) q.ce), (14, 4, .slice q.e (m + 1 + (i - m)) q.ce)]) (RX W0 m i (x i) (flatP (plX x (i + 1)))) ⟨none, 0, 0, none, 0, none, 0⟩ (RX.init _) ?_ ?_
              · refine (And.intro (fun s q wv hW hs hp => ?_) (And.intro (fun s q wv hW hs hp => ?_) (And.intro (fun s q wv hW hs hp => ?_) (And.intro (fun s q wv hW hs hp => ?_) (And.intro (fun s q wv hW hs hp => ?_) (And.intro (fun s q wv hW hs hp => ?_) (And.intro (fun s q wv hW hs hp => ?_) (And.intro (fun s q wv hW hs hp => ?_) (And.intro (fun s q wv hW hs hp => ?_) (And.intro (fun s q wv hW hs hp => ?_) (And.intro (fun s q wv hW hs hp => ?_) (And.intro (fun s q wv hW hs hp => ?_) (And.intro (fun s q wv hW hs hp => ?_) (And.intro (fun s q wv hW hs hp => ?_) (And.intro (fun s q wv hW hs hp => ?_) True.intro)))))))))))))))
                · have S14 : s 14 = false := hW.no14 hs (by decide); (try simp [waits, Region.binds, hs] at hp); (first | simp only [frm, List.foldl, Act.put, List.setIfInBounds_toArray, List.set_cons_succ, List.set_cons_zero, hs, hp, S14, cond_true, cond_false] | simp only [frm, List.foldl, Act.put, List.setIfInBounds_toArray, List.set_cons_succ, List.set_cons_zero, hs, S14, cond_true, cond_false]); have HW := Lib.hid hW; clear hW; go_wp2; refine ⟨q, by (first | simp [frm, Act.put, upd, hs, hp, S14] | simp [frm, Act.put, upd, hs, S14]), HW.out.keep S14 (by decide) (by decide) (by decide) (by decide) (by decide)⟩
                · have S14 : s 14 = false := hW.no14 hs (by decide); (try simp [waits, Region.binds, hs] at hp); (first | simp only [frm, List.foldl, Act.put, List.setIfInBounds_toArray, List.set_cons_succ, List.set_cons_zero, hs, hp, S14, cond_true, cond_false] | simp only [frm, List.foldl, Act.put, List.setIfInBounds_toArray, List.set_cons_succ, List.set_cons_zero, hs, S14, cond_true, cond_false]); have HW := Lib.hid hW; clear hW; go_wp2; refine ⟨q, by (first | simp [frm, Act.put, upd, hs, hp, S14] | simp [frm, Act.put, upd, hs, S14]), HW.out.keep S14 (by decide) (by decide) (by decide) (by decide) (by decide)⟩
                · have S14 : s 14 = false := hW.no14 hs (by decide); (try simp [waits, Region.binds, hs] at hp); (first | simp only [frm, List.foldl, Act.put, List.setIfInBounds_toArray, List.set_cons_succ, List.set_cons_zero, hs, hp, S14, cond_true, cond_false] | simp only [frm, List.foldl, Act.put, List.setIfInBounds_toArray, List.set_cons_succ, List.set_cons_zero, hs, S14, cond_true, cond_false]); have HW := Lib.hid hW; clear hW; ((with_reducible apply wpList_slice_hi); (case hw => rfl); (case ho => rfl); (case hx => rfl); (case hy => rfl); (case hr => exact fun w => slice_to6 g i cp m HLE.out w)); go_wp2; refine ⟨q, by (first | simp [frm, Act.put, upd, hs, hp, S14] | simp [frm, Act.put, upd, hs, S14]), HW.out.keep S14 (by decide) (by decide) (by decide) (by decide) (by decide)⟩
                · have S14 : s 14 = false := hW.no14 hs (by decide); (try simp [waits, Region.binds, hs] at hp); (first | simp only [frm, List.foldl, Act.put, List.setIfInBounds_toArray, List.set_cons_succ, List.set_cons_zero, hs, hp, S14, cond_true, cond_false] | simp only [frm, List.foldl, Act.put, List.setIfInBounds_toArray, List.set_cons_succ, List.set_cons_zero, hs, S14, cond_true, cond_false]); have HW := Lib.hid hW; clear hW; go_wp2_with fail; go_at_call 40; refine (l2Own_any ⟨g, 0, none⟩ m cp (flatP (plX x i)) HM.out _ (fun j hj => by rw [addr_add, Nat.zero_add]; exact CO.out _ HW.out.1 j (by have := HLE2.out; omega))).mono ?_; rintro e' w2 ⟨o2, c2, rfl, hI2, hb2⟩; have HI2 := Lib.hid hI2; have HB2 := Lib.hid hb2; clear hI2 hb2; go_wp2; refine ⟨{ q with a := o2, ca := c2 }, by (first | simp [frm, Act.put, upd, hs, hp, S14] | simp [frm, Act.put, upd, hs, S14]), HW.out.own S14 HB2.out (HI2.out.congr (fun p hp' => HLT.out p hp'))⟩
                · have S14 : s 14 = false := hW.no14 hs (by decide); (try simp [waits, Region.binds, hs] at hp); (first | simp only [frm, List.foldl, Act.put, List.setIfInBounds_toArray, List.set_cons_succ, List.set_cons_zero, hs, hp, S14, cond_true, cond_false] | simp only [frm, List.foldl, Act.put, List.setIfInBounds_toArray, List.set_cons_succ, List.set_cons_zero, hs, S14, cond_true, cond_false]); have HW := Lib.hid hW; clear hW; go_wp2; refine ⟨q, by (first | simp [frm, Act.put, upd, hs, hp, S14] | simp [frm, Act.put, upd, hs, S14]), HW.out.keep S14 (by decide) (by decide) (by decide) (by decide) (by decide)⟩
                · have S14 : s 14 = false := hW.no14 hs (by decide); (try simp [waits, Region.binds, hs] at hp); (first | simp only [frm, List.foldl, Act.put, List.setIfInBounds_toArray, List.set_cons_succ, List.set_cons_zero, hs, hp, S14, cond_true, cond_false] | simp only [frm, List.foldl, Act.put, List.setIfInBounds_toArray, List.set_cons_succ, List.set_cons_zero, hs, S14, cond_true, cond_false]); have HW := Lib.hid hW; clear hW; go_wp2; refine ⟨q, by (first | simp [frm, Act.put, upd, hs, hp, S14] | simp [frm, Act.put, upd, hs, S14]), HW.out.keep S14 (by decide) (by decide) (by decide) (by decide) (by decide)⟩
                · have S14 : s 14 = false := hW.no14 hs (by decide); (try simp [waits, Region.binds, hs] at hp); (first | simp only [frm, List.foldl, Act.put, List.setIfInBounds_toArray, List.set_cons_succ, List.set_cons_zero, hs, hp, S14, cond_true, cond_false] | simp only [frm, List.foldl, Act.put, List.setIfInBounds_toArray, List.set_cons_succ, List.set_cons_zero, hs, S14, cond_true, cond_false]); have HW := Lib.hid hW; clear hW; go_wp2; refine ⟨q, by (first | simp [frm, Act.put, upd, hs, hp, S14] | simp [frm, Act.put, upd, hs, S14]), HW.out.keep S14 (by decide) (by decide) (by decide) (by decide) (by decide)⟩
                · have S14 : s 14 = false := hW.no14 hs (by decide); (try simp [waits, Region.binds, hs] at hp); (first | simp only [frm, List.foldl, Act.put, List.setIfInBounds_toArray, List.set_cons_succ, List.set_cons_zero, hs, hp, S14, cond_true, cond_false] | simp only [frm, List.foldl, Act.put, List.setIfInBounds_toArray, List.set_cons_succ, List.set_cons_zero, hs, S14, cond_true, cond_false]); have HW := Lib.hid hW; clear hW; refine wpList_load_cells rfl 53 _ rfl rfl (CR.out _ HW.out.1) Try.isAgg53 sz6 ?_; go_wp2; refine ⟨q, by (first | simp [frm, Act.put, upd, hs, hp, S14] | simp [frm, Act.put, upd, hs, S14]), HW.out.keep S14 (by decide) (by decide) (by decide) (by decide) (by decide)⟩
                · have S14 : s 14 = false := hW.no14 hs (by decide); (try simp [waits, Region.binds, hs] at hp); (first | simp only [frm, List.foldl, Act.put, List.setIfInBounds_toArray, List.set_cons_succ, List.set_cons_zero, hs, hp, S14, cond_true, cond_false] | simp only [frm, List.foldl, Act.put, List.setIfInBounds_toArray, List.set_cons_succ, List.set_cons_zero, hs, S14, cond_true, cond_false]); have HW := Lib.hid hW; clear hW; refine wpList_buildSlice1_6 rfl rfl (g := x i) rfl ?_; go_wp2; refine ⟨{ q with b := wv.heap.size }, by (first | simp [frm, Act.put, upd, hs, hp, S14] | simp [frm, Act.put, upd, hs, S14]), HW.out.box S14⟩
                · have S14 : s 14 = false := hW.no14 hs (by decide); (try simp [waits, Region.binds, hs] at hp); (first | simp only [frm, List.foldl, Act.put, List.setIfInBounds_toArray, List.set_cons_succ, List.set_cons_zero, hs, hp, S14, cond_true, cond_false] | simp only [frm, List.foldl, Act.put, List.setIfInBounds_toArray, List.set_cons_succ, List.set_cons_zero, hs, S14, cond_true, cond_false]); have HW := Lib.hid hW; clear hW; have S3 : s 3 = true := (by simp [hp]); have S8 : s 8 = true := (by simp [hp]); ((with_reducible apply (wpList_append_arrs6 (f := flatP (plX x (i + 1))) (z := x i))); (case hgd => rfl); (case ho => rfl); (case hs => rfl); (case hx => rfl); (case hS => exact Try.underlying22); (case hown => exact HW.out.2.1 S3 hs); (case hz => exact fun j hj => by rw [addr_add, Nat.zero_add]; exact HW.out.2.2.1 S8 hs j (by omega)); (case hf => exact fun j hj => by rw [flatP_at _ (by omega), HAT.out]); (case hm => exact HM1.out); (case hB => exact HW.out.1.below.size); intro A2 c2 w2 hI2 hg2); have HI2 := Lib.hid hI2; have HG2 := Lib.hid hg2; clear hI2 hg2; go_wp2; refine ⟨{ q with d := A2, cd := c2 }, by (first | simp [frm, Act.put, upd, hs, hp, S14] | simp [frm, Act.put, upd, hs, S14]), HW.out.app9 S14 hs HI2.out (HW.out.2.1 S3 hs) HG2.out⟩
                · have S14 : s 14 = false := hW.no14 hs (by decide); (try simp [waits, Region.binds, hs] at hp); (first | simp only [frm, List.foldl, Act.put, List.setIfInBounds_toArray, List.set_cons_succ, List.set_cons_zero, hs, hp, S14, cond_true, cond_false] | simp only [frm, List.foldl, Act.put, List.setIfInBounds_toArray, List.set_cons_succ, List.set_cons_zero, hs, S14, cond_true, cond_false]); have HW := Lib.hid hW; clear hW; go_wp2; refine ⟨q, by (first | simp [frm, Act.put, upd, hs, hp, S14] | simp [frm, Act.put, upd, hs, S14]), HW.out.keep S14 (by decide) (by decide) (by decide) (by decide) (by decide)⟩
                · have S14 : s 14 = false := hW.no14 hs (by decide); (try simp [waits, Region.binds, hs] at hp); (first | simp only [frm, List.foldl, Act.put, List.setIfInBounds_toArray, List.set_cons_succ, List.set_cons_zero, hs, hp, S14, cond_true, cond_false] | simp only [frm, List.foldl, Act.put, List.setIfInBounds_toArray, List.set_cons_succ, List.set_cons_zero, hs, S14, cond_true, cond_false]); have HW := Lib.hid hW; clear hW; go_wp2; refine ⟨q, by (first | simp [frm, Act.put, upd, hs, hp, S14] | simp [frm, Act.put, upd, hs, S14]), HW.out.keep S14 (by decide) (by decide) (by decide) (by decide) (by decide)⟩
                · have S14 : s 14 = false := hW.no14 hs (by decide); (try simp [waits, Region.binds, hs] at hp); (first | simp only [frm, List.foldl, Act.put, List.setIfInBounds_toArray, List.set_cons_succ, List.set_cons_zero, hs, hp, S14, cond_true, cond_false] | simp only [frm, List.foldl, Act.put, List.setIfInBounds_toArray, List.set_cons_succ, List.set_cons_zero, hs, S14, cond_true, cond_false]); have HW := Lib.hid hW; clear hW; ((with_reducible apply wpList_slice_lo); (case hw => rfl); (case ho => rfl); (case hx => rfl); (case hy => rfl); (case hr => exact HSF.out)); go_wp2; refine ⟨q, by (first | simp [frm, Act.put, upd, hs, hp, S14] | simp [frm, Act.put, upd, hs, S14]), HW.out.keep S14 (by decide) (by decide) (by decide) (by decide) (by decide)⟩
                · have S14 : s 14 = false := hW.no14 hs (by decide); (try simp [waits, Region.binds, hs] at hp); (first | simp only [frm, List.foldl, Act.put, List.setIfInBounds_toArray, List.set_cons_succ, List.set_cons_zero, hs, hp, S14, cond_true, cond_false] | simp only [frm, List.foldl, Act.put, List.setIfInBounds_toArray, List.set_cons_succ, List.set_cons_zero, hs, S14, cond_true, cond_false]); have HW := Lib.hid hW; clear hW; have S9 : s 9 = true := (by simp [hp]); ((with_reducible apply (wpList_append_arrs6 (f := flatP (plX x (i + 1))) (z := fun j => flatP (plX x i) (m * 6 + j)))); (case hgd => rfl); (case ho => rfl); (case hs => rfl); (case hx => rfl); (case hS => exact Try.underlying22); (case hown => exact HW.out.2.2.2.1 S9 hs); (case hz => exact fun j hj => by have := HLE2.out; rw [HOF.out (by omega), addr_add]; exact CO.out _ HW.out.1 (m * 6 + j) (by omega)); (case hf => exact fun j hj => by have := HLE2.out; rw [show (m + 1) * 6 + j = (m * 6 + j) + 6 by omega]; exact HGT.out (m * 6 + j) (by omega) (by omega)); (case hm => exact HM2.out); (case hB => exact HW.out.1.below.size); intro A2 c2 w2 hI2 hg2); have HI2 := Lib.hid hI2; have HG2 := Lib.hid hg2; clear hI2 hg2; go_wp2; refine ⟨{ q with e := A2, ce := c2 }, by (first | simp [frm, Act.put, upd, hs, hp, S14] | simp [frm, Act.put, upd, hs, S14]), HW.out.app13 S14 S9 hs HI2.out (HW.out.2.2.2.1 S9 hs) HG2.out⟩
                · (try simp [waits, Region.binds, hs] at hp); (first | simp only [frm, List.foldl, Act.put, List.setIfInBounds_toArray, List.set_cons_succ, List.set_cons_zero, hs, hp, cond_true, cond_false] | simp only [frm, List.foldl, Act.put, List.setIfInBounds_toArray, List.set_cons_succ, List.set_cons_zero, hs, cond_true, cond_false]); have HW := Lib.hid hW; clear hW; go_wp2; refine ⟨q, by (first | simp [frm, Act.put, upd, hs, hp] | simp [frm, Act.put, upd, hs]), HW.out.fin14 (all14 (by simp [hp]))⟩
              · intro s q wg hW hall
                have hs := fun i (hi : i < 15) => hall i (by simpa using hi)
                simp only [frm, List.foldl, Act.put, List.setIfInBounds_toArray, List.set_cons_succ, List.set_cons_zero, hs 0 (by omega), hs 1 (by omega), hs 2 (by omega), hs 3 (by omega), hs 4 (by omega), hs 5 (by omega), hs 6 (by omega), hs 7 (by omega), hs 8 (by omega), hs 9 (by omega), hs 10 (by omega), hs 11 (by omega), hs 12 (by omega), hs 13 (by omega), hs 14 (by omega), cond_true]
                have hI3 := (hW.2.2.2.2.1 (hs 13 (by omega))).2
                have HB3 := Lib.hid (HB0.out.trans (hW.1.below.mono HB0.out.size))
                have D3 := Lib.hid (show Dice6 wg pa N x from fun k hk => ⟨Nat.lt_of_lt_of_le (D0.out k hk).1 hW.1.below.size, fun j hj => by rw [hW.1.below.cell (by rw [add_block]; exact (D0.out k hk).1)]; exact (D0.out k hk).2 j hj⟩)
                clear hW hs hall
                obtain ⟨qa, qca, qb, qd, qcd, qe, qce⟩ := q
                simp only at hI3 ⊢
                rw [HIL.out] at hI3 ⊢
                obtain ⟨g3, rfl, _, _, _⟩ := hI3.cells (k := 0) (by omega)
                have HI3 := Lib.hid (hI3.base HB0.out.size)
                have HC3 := Lib.hid (show i + 1 ≤ qce by
                  obtain ⟨_, _, _, _, _, h5, _⟩ := own_form hI3 (by omega)
                  exact h5)
                clear hI3
                go_wp2
                go_roundw
                case rel => exact ⟨i + 1, by omega, by go_num, ⟨g3, qce, rfl, HC3.out, HI3.out⟩, D3.out, HB3.out⟩
                case measure => simp [RowKit.intOf]; omega
            · have b1 : decide (lexI (x i) (plX x i q) 6 0 < 0) = true := hls
              have HP2 := Lib.hid (show posX (plX x i) (x i) i = posX (plX x i) (x i) q by rw [HP.out, HJ.out]; simp only [posX, hls]; rfl)
              clear hls
              rw [b1]
              go_wp2
              go_roundw
              case rel => exact ⟨q, by omega, by go_num, HP2.out, I0.out, D0.out, HB0.out⟩
              case measure => simp [RowKit.intOf]; omega
          · have d3 : decide ((0 : Int) < (j : Int)) = false := by simp; omega
            have HM0 := Lib.hid (show posX (plX x i) (x i) i = j by rw [HP.out]; obtain rfl : j = 0 := (by omega); rfl)
            have HLT := Lib.hid (fun p (hp : p < j * 6) => show flatP (plX x i) p = flatP (plX x (i + 1)) p by unfold flatP; rw [insX_lt (show p / 6 < posX (plX x i) (x i) i by rw [HM0.out]; omega)])
            have HAT := Lib.hid (show plX x (i + 1) j = x i by have := insX_at (r := x) (i := i); rw [HM0.out] at this; exact this)
            have HGT := Lib.hid (fun p (h1 : j * 6 ≤ p) (h2 : p < i * 6) => show flatP (plX x (i + 1)) (p + 6) = flatP (plX x i) p by unfold flatP; rw [show (p + 6) / 6 = p / 6 + 1 by omega, show (p + 6) % 6 = p % 6 by omega, insX_gt (show posX (plX x i) (x i) i ≤ p / 6 by rw [HM0.out]; omega) (by omega)])
            go_wp2
            go_quiet (fail)
            go_wp2
            obtain ⟨m, rfl⟩ : ∃ m, m = j := ⟨_, rfl⟩
            have hg : Grew wr (wr.drewN nq) := ⟨rfl, rfl, rfl, Nat.le_refl _, fun _ _ => rfl⟩
            have I0 := Lib.hid (HI.out.below hg.below); have D0 := Lib.hid (dice_grew DD.out hg); have HB0 := Lib.hid (HB.out.trans (hg.below.mono HB.out.size))
            clear hg HI HB DD
            generalize hW0 : wr.drewN nq = W0 at I0 D0 HB0 ⊢
            clear hW0
            have CO := Lib.hid (fun (w' : World) (hG : Grew W0 w') (p : Nat) (hp : p < i * 6) => show w'.cell? ⟨g, p, none⟩ = some (.int .i64 (flatP (plX x i) p)) by
              obtain ⟨g2, e2, _, _, c1⟩ := (I0.out.below hG.below).cell (k := p / 6) (j := p % 6) (by omega) (by omega)
              obtain rfl : g = g2 := by injection e2 with e2; injection e2
              rw [show p / 6 * 6 + p % 6 = p by omega] at c1
              exact c1)
            have CR := Lib.hid (fun (w' : World) (hG : Grew W0 w') (k : Nat) (hk : k < 6) => show w'.cell? ((pa.add (i * 6)).add k) = some (I (x i) k) by
              rw [hG.below.cell (by rw [add_block]; exact (D0.out i hlt).1)]
              exact (D0.out i hlt).2 k hk)
            obtain ⟨off, hoff⟩ : ∃ off, off = (if cp = m then 0 else m * 6) := ⟨_, rfl⟩
            have HSF := Lib.hid (fun w => show (Instr.sliceAt 22 (.slice (some ⟨g, 0, none⟩) i cp) (some (.int .i64 (m : Int))) none none).run Try.prog w = .ok (.slice (some ⟨g, off, none⟩) (i - m) (cp - m)) w by rw [hoff]; exact slice_from6 g i cp m HLE.out HLE2.out w)
            have HOF := Lib.hid (fun (h : m < i) => show off = m * 6 by rw [hoff, if_neg (by omega)])
            clear hoff
            refine wp_region_steps (by kernel_rfl) (by kernel_rfl) (fun q : RG => [(0, 36, .slice (some ⟨g, 0, none⟩) i cp), (1, 37, .int .i64 (m : Int)), (2, 38, .slice (some ⟨g, 0, none⟩) m cp), (3, 39, .slice q.a m q.ca), (4, 40, .slice (some pa) N cN), (5, 41, .int .i64 (i : Int)), (6, 42, .pointer (some (pa.add (i * 6)))), (7, 43, .agg (row 6 (I (x i)))), (8, 44, .slice (some ⟨q.b, 0, none⟩) 1 1), (9, 45, .slice q.d (m + 1) q.cd), (10, 46, .slice (some ⟨g, 0, none⟩) i cp), (11, 47, .int .i64 (m : Int)), (12, 48, .slice (some ⟨g, off, none⟩) (i - m) (cp - m)), (13, 49, .slice q.e (m + 1 + (i - m)) q.ce), (14, 4, .slice q.e (m + 1 + (i - m)) q.ce)]) (RX W0 m i (x i) (flatP (plX x (i + 1)))) ⟨none, 0, 0, none, 0, none, 0⟩ (RX.init _) ?_ ?_
            · refine (And.intro (fun s q wv hW hs hp => ?_) (And.intro (fun s q wv hW hs hp => ?_) (And.intro (fun s q wv hW hs hp => ?_) (And.intro (fun s q wv hW hs hp => ?_) (And.intro (fun s q wv hW hs hp => ?_) (And.intro (fun s q wv hW hs hp => ?_) (And.intro (fun s q wv hW hs hp => ?_) (And.intro (fun s q wv hW hs hp => ?_) (And.intro (fun s q wv hW hs hp => ?_) (And.intro (fun s q wv hW hs hp => ?_) (And.intro (fun s q wv hW hs hp => ?_) (And.intro (fun s q wv hW hs hp => ?_) (And.intro (fun s q wv hW hs hp => ?_) (And.intro (fun s q wv hW hs hp => ?_) (And.intro (fun s q wv hW hs hp => ?_) True.intro)))))))))))))))
              · have S14 : s 14 = false := hW.no14 hs (by decide); (try simp [waits, Region.binds, hs] at hp); (first | simp only [frm, List.foldl, Act.put, List.setIfInBounds_toArray, List.set_cons_succ, List.set_cons_zero, hs, hp, S14, cond_true, cond_false] | simp only [frm, List.foldl, Act.put, List.setIfInBounds_toArray, List.set_cons_succ, List.set_cons_zero, hs, S14, cond_true, cond_false]); have HW := Lib.hid hW; clear hW; go_wp2; refine ⟨q, by (first | simp [frm, Act.put, upd, hs, hp, S14] | simp [frm, Act.put, upd, hs, S14]), HW.out.keep S14 (by decide) (by decide) (by decide) (by decide) (by decide)⟩
              · have S14 : s 14 = false := hW.no14 hs (by decide); (try simp [waits, Region.binds, hs] at hp); (first | simp only [frm, List.foldl, Act.put, List.setIfInBounds_toArray, List.set_cons_succ, List.set_cons_zero, hs, hp, S14, cond_true, cond_false] | simp only [frm, List.foldl, Act.put, List.setIfInBounds_toArray, List.set_cons_succ, List.set_cons_zero, hs, S14, cond_true, cond_false]); have HW := Lib.hid hW; clear hW; go_wp2; refine ⟨q, by (first | simp [frm, Act.put, upd, hs, hp, S14] | simp [frm, Act.put, upd, hs, S14]), HW.out.keep S14 (by decide) (by decide) (by decide) (by decide) (by decide)⟩
              · have S14 : s 14 = false := hW.no14 hs (by decide); (try simp [waits, Region.binds, hs] at hp); (first | simp only [frm, List.foldl, Act.put, List.setIfInBounds_toArray, List.set_cons_succ, List.set_cons_zero, hs, hp, S14, cond_true, cond_false] | simp only [frm, List.foldl, Act.put, List.setIfInBounds_toArray, List.set_cons_succ, List.set_cons_zero, hs, S14, cond_true, cond_false]); have HW := Lib.hid hW; clear hW; ((with_reducible apply wpList_slice_hi); (case hw => rfl); (case ho => rfl); (case hx => rfl); (case hy => rfl); (case hr => exact fun w => slice_to6 g i cp m HLE.out w)); go_wp2; refine ⟨q, by (first | simp [frm, Act.put, upd, hs, hp, S14] | simp [frm, Act.put, upd, hs, S14]), HW.out.keep S14 (by decide) (by decide) (by decide) (by decide) (by decide)⟩
              · have S14 : s 14 = false := hW.no14 hs (by decide); (try simp [waits, Region.binds, hs] at hp); (first | simp only [frm, List.foldl, Act.put, List.setIfInBounds_toArray, List.set_cons_succ, List.set_cons_zero, hs, hp, S14, cond_true, cond_false] | simp only [frm, List.foldl, Act.put, List.setIfInBounds_toArray, List.set_cons_succ, List.set_cons_zero, hs, S14, cond_true, cond_false]); have HW := Lib.hid hW; clear hW; go_wp2_with fail; go_at_call 40; refine (l2Own_any ⟨g, 0, none⟩ m cp (flatP (plX x i)) HM.out _ (fun j hj => by rw [addr_add, Nat.zero_add]; exact CO.out _ HW.out.1 j (by have := HLE2.out; omega))).mono ?_; rintro e' w2 ⟨o2, c2, rfl, hI2, hb2⟩; have HI2 := Lib.hid hI2; have HB2 := Lib.hid hb2; clear hI2 hb2; go_wp2; refine ⟨{ q with a := o2, ca := c2 }, by (first | simp [frm, Act.put, upd, hs, hp, S14] | simp [frm, Act.put, upd, hs, S14]), HW.out.own S14 HB2.out (HI2.out.congr (fun p hp' => HLT.out p hp'))⟩
              · have S14 : s 14 = false := hW.no14 hs (by decide); (try simp [waits, Region.binds, hs] at hp); (first | simp only [frm, List.foldl, Act.put, List.setIfInBounds_toArray, List.set_cons_succ, List.set_cons_zero, hs, hp, S14, cond_true, cond_false] | simp only [frm, List.foldl, Act.put, List.setIfInBounds_toArray, List.set_cons_succ, List.set_cons_zero, hs, S14, cond_true, cond_false]); have HW := Lib.hid hW; clear hW; go_wp2; refine ⟨q, by (first | simp [frm, Act.put, upd, hs, hp, S14] | simp [frm, Act.put, upd, hs, S14]), HW.out.keep S14 (by decide) (by decide) (by decide) (by decide) (by decide)⟩
              · have S14 : s 14 = false := hW.no14 hs (by decide); (try simp [waits, Region.binds, hs] at hp); (first | simp only [frm, List.foldl, Act.put, List.setIfInBounds_toArray, List.set_cons_succ, List.set_cons_zero, hs, hp, S14, cond_true, cond_false] | simp only [frm, List.foldl, Act.put, List.setIfInBounds_toArray, List.set_cons_succ, List.set_cons_zero, hs, S14, cond_true, cond_false]); have HW := Lib.hid hW; clear hW; go_wp2; refine ⟨q, by (first | simp [frm, Act.put, upd, hs, hp, S14] | simp [frm, Act.put, upd, hs, S14]), HW.out.keep S14 (by decide) (by decide) (by decide) (by decide) (by decide)⟩
              · have S14 : s 14 = false := hW.no14 hs (by decide); (try simp [waits, Region.binds, hs] at hp); (first | simp only [frm, List.foldl, Act.put, List.setIfInBounds_toArray, List.set_cons_succ, List.set_cons_zero, hs, hp, S14, cond_true, cond_false] | simp only [frm, List.foldl, Act.put, List.setIfInBounds_toArray, List.set_cons_succ, List.set_cons_zero, hs, S14, cond_true, cond_false]); have HW := Lib.hid hW; clear hW; go_wp2; refine ⟨q, by (first | simp [frm, Act.put, upd, hs, hp, S14] | simp [frm, Act.put, upd, hs, S14]), HW.out.keep S14 (by decide) (by decide) (by decide) (by decide) (by decide)⟩
              · have S14 : s 14 = false := hW.no14 hs (by decide); (try simp [waits, Region.binds, hs] at hp); (first | simp only [frm, List.foldl, Act.put, List.setIfInBounds_toArray, List.set_cons_succ, List.set_cons_zero, hs, hp, S14, cond_true, cond_false] | simp only [frm, List.foldl, Act.put, List.setIfInBounds_toArray, List.set_cons_succ, List.set_cons_zero, hs, S14, cond_true, cond_false]); have HW := Lib.hid hW; clear hW; refine wpList_load_cells rfl 53 _ rfl rfl (CR.out _ HW.out.1) Try.isAgg53 sz6 ?_; go_wp2; refine ⟨q, by (first | simp [frm, Act.put, upd, hs, hp, S14] | simp [frm, Act.put, upd, hs, S14]), HW.out.keep S14 (by decide) (by decide) (by decide) (by decide) (by decide)⟩
              · have S14 : s 14 = false := hW.no14 hs (by decide); (try simp [waits, Region.binds, hs] at hp); (first | simp only [frm, List.foldl, Act.put, List.setIfInBounds_toArray, List.set_cons_succ, List.set_cons_zero, hs, hp, S14, cond_true, cond_false] | simp only [frm, List.foldl, Act.put, List.setIfInBounds_toArray, List.set_cons_succ, List.set_cons_zero, hs, S14, cond_true, cond_false]); have HW := Lib.hid hW; clear hW; refine wpList_buildSlice1_6 rfl rfl (g := x i) rfl ?_; go_wp2; refine ⟨{ q with b := wv.heap.size }, by (first | simp [frm, Act.put, upd, hs, hp, S14] | simp [frm, Act.put, upd, hs, S14]), HW.out.box S14⟩
              · have S14 : s 14 = false := hW.no14 hs (by decide); (try simp [waits, Region.binds, hs] at hp); (first | simp only [frm, List.foldl, Act.put, List.setIfInBounds_toArray, List.set_cons_succ, List.set_cons_zero, hs, hp, S14, cond_true, cond_false] | simp only [frm, List.foldl, Act.put, List.setIfInBounds_toArray, List.set_cons_succ, List.set_cons_zero, hs, S14, cond_true, cond_false]); have HW := Lib.hid hW; clear hW; have S3 : s 3 = true := (by simp [hp]); have S8 : s 8 = true := (by simp [hp]); ((with_reducible apply (wpList_append_arrs6 (f := flatP (plX x (i + 1))) (z := x i))); (case hgd => rfl); (case ho => rfl); (case hs => rfl); (case hx => rfl); (case hS => exact Try.underlying22); (case hown => exact HW.out.2.1 S3 hs); (case hz => exact fun j hj => by rw [addr_add, Nat.zero_add]; exact HW.out.2.2.1 S8 hs j (by omega)); (case hf => exact fun j hj => by rw [flatP_at _ (by omega), HAT.out]); (case hm => exact HM1.out); (case hB => exact HW.out.1.below.size); intro A2 c2 w2 hI2 hg2); have HI2 := Lib.hid hI2; have HG2 := Lib.hid hg2; clear hI2 hg2; go_wp2; refine ⟨{ q with d := A2, cd := c2 }, by (first | simp [frm, Act.put, upd, hs, hp, S14] | simp [frm, Act.put, upd, hs, S14]), HW.out.app9 S14 hs HI2.out (HW.out.2.1 S3 hs) HG2.out⟩
              · have S14 : s 14 = false := hW.no14 hs (by decide); (try simp [waits, Region.binds, hs] at hp); (first | simp only [frm, List.foldl, Act.put, List.setIfInBounds_toArray, List.set_cons_succ, List.set_cons_zero, hs, hp, S14, cond_true, cond_false] | simp only [frm, List.foldl, Act.put, List.setIfInBounds_toArray, List.set_cons_succ, List.set_cons_zero, hs, S14, cond_true, cond_false]); have HW := Lib.hid hW; clear hW; go_wp2; refine ⟨q, by (first | simp [frm, Act.put, upd, hs, hp, S14] | simp [frm, Act.put, upd, hs, S14]), HW.out.keep S14 (by decide) (by decide) (by decide) (by decide) (by decide)⟩
              · have S14 : s 14 = false := hW.no14 hs (by decide); (try simp [waits, Region.binds, hs] at hp); (first | simp only [frm, List.foldl, Act.put, List.setIfInBounds_toArray, List.set_cons_succ, List.set_cons_zero, hs, hp, S14, cond_true, cond_false] | simp only [frm, List.foldl, Act.put, List.setIfInBounds_toArray, List.set_cons_succ, List.set_cons_zero, hs, S14, cond_true, cond_false]); have HW := Lib.hid hW; clear hW; go_wp2; refine ⟨q, by (first | simp [frm, Act.put, upd, hs, hp, S14] | simp [frm, Act.put, upd, hs, S14]), HW.out.keep S14 (by decide) (by decide) (by decide) (by decide) (by decide)⟩
              · have S14 : s 14 = false := hW.no14 hs (by decide); (try simp [waits, Region.binds, hs] at hp); (first | simp only [frm, List.foldl, Act.put, List.setIfInBounds_toArray, List.set_cons_succ, List.set_cons_zero, hs, hp, S14, cond_true, cond_false] | simp only [frm, List.foldl, Act.put, List.setIfInBounds_toArray, List.set_cons_succ, List.set_cons_zero, hs, S14, cond_true, cond_false]); have HW := Lib.hid hW; clear hW; ((with_reducible apply wpList_slice_lo); (case hw => rfl); (case ho => rfl); (case hx => rfl); (case hy => rfl); (case hr => exact HSF.out)); go_wp2; refine ⟨q, by (first | simp [frm, Act.put, upd, hs, hp, S14] | simp [frm, Act.put, upd, hs, S14]), HW.out.keep S14 (by decide) (by decide) (by decide) (by decide) (by decide)⟩
              · have S14 : s 14 = false := hW.no14 hs (by decide); (try simp [waits, Region.binds, hs] at hp); (first | simp only [frm, List.foldl, Act.put, List.setIfInBounds_toArray, List.set_cons_succ, List.set_cons_zero, hs, hp, S14, cond_true, cond_false] | simp only [frm, List.foldl, Act.put, List.setIfInBounds_toArray, List.set_cons_succ, List.set_cons_zero, hs, S14, cond_true, cond_false]); have HW := Lib.hid hW; clear hW; have S9 : s 9 = true := (by simp [hp]); ((with_reducible apply (wpList_append_arrs6 (f := flatP (plX x (i + 1))) (z := fun j => flatP (plX x i) (m * 6 + j)))); (case hgd => rfl); (case ho => rfl); (case hs => rfl); (case hx => rfl); (case hS => exact Try.underlying22); (case hown => exact HW.out.2.2.2.1 S9 hs); (case hz => exact fun j hj => by have := HLE2.out; rw [HOF.out (by omega), addr_add]; exact CO.out _ HW.out.1 (m * 6 + j) (by omega)); (case hf => exact fun j hj => by have := HLE2.out; rw [show (m + 1) * 6 + j = (m * 6 + j) + 6 by omega]; exact HGT.out (m * 6 + j) (by omega) (by omega)); (case hm => exact HM2.out); (case hB => exact HW.out.1.below.size); intro A2 c2 w2 hI2 hg2); have HI2 := Lib.hid hI2; have HG2 := Lib.hid hg2; clear hI2 hg2; go_wp2; refine ⟨{ q with e := A2, ce := c2 }, by (first | simp [frm, Act.put, upd, hs, hp, S14] | simp [frm, Act.put, upd, hs, S14]), HW.out.app13 S14 S9 hs HI2.out (HW.out.2.2.2.1 S9 hs) HG2.out⟩
              · (try simp [waits, Region.binds, hs] at hp); (first | simp only [frm, List.foldl, Act.put, List.setIfInBounds_toArray, List.set_cons_succ, List.set_cons_zero, hs, hp, cond_true, cond_false] | simp only [frm, List.foldl, Act.put, List.setIfInBounds_toArray, List.set_cons_succ, List.set_cons_zero, hs, cond_true, cond_false]); have HW := Lib.hid hW; clear hW; go_wp2; refine ⟨q, by (first | simp [frm, Act.put, upd, hs, hp] | simp [frm, Act.put, upd, hs]), HW.out.fin14 (all14 (by simp [hp]))⟩
            · intro s q wg hW hall
              have hs := fun i (hi : i < 15) => hall i (by simpa using hi)
              simp only [frm, List.foldl, Act.put, List.setIfInBounds_toArray, List.set_cons_succ, List.set_cons_zero, hs 0 (by omega), hs 1 (by omega), hs 2 (by omega), hs 3 (by omega), hs 4 (by omega), hs 5 (by omega), hs 6 (by omega), hs 7 (by omega), hs 8 (by omega), hs 9 (by omega), hs 10 (by omega), hs 11 (by omega), hs 12 (by omega), hs 13 (by omega), hs 14 (by omega), cond_true]
              have hI3 := (hW.2.2.2.2.1 (hs 13 (by omega))).2
              have HB3 := Lib.hid (HB0.out.trans (hW.1.below.mono HB0.out.size))
              have D3 := Lib.hid (show Dice6 wg pa N x from fun k hk => ⟨Nat.lt_of_lt_of_le (D0.out k hk).1 hW.1.below.size, fun j hj => by rw [hW.1.below.cell (by rw [add_block]; exact (D0.out k hk).1)]; exact (D0.out k hk).2 j hj⟩)
              clear hW hs hall
              obtain ⟨qa, qca, qb, qd, qcd, qe, qce⟩ := q
              simp only at hI3 ⊢
              rw [HIL.out] at hI3 ⊢
              obtain ⟨g3, rfl, _, _, _⟩ := hI3.cells (k := 0) (by omega)
              have HI3 := Lib.hid (hI3.base HB0.out.size)
              have HC3 := Lib.hid (show i + 1 ≤ qce by
                obtain ⟨_, _, _, _, _, h5, _⟩ := own_form hI3 (by omega)
                exact h5)
              clear hI3
              go_wp2
              go_roundw
              case rel => exact ⟨i + 1, by omega, by go_num, ⟨g3, qce, rfl, HC3.out, HI3.out⟩, D3.out, HB3.out⟩
              case measure => simp [RowKit.intOf]; omega
      · have d0 : decide (i < N) = false := by simp; omega
        obtain rfl : i = N := by omega
        go_wp2
        go_ret2
        exact ⟨_, cp, rfl, HI.out, HB.out⟩
end Go.Proofs.Ytbfhfadfjgfmaaa
