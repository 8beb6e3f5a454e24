/- Texts of mine, joined by merge.py. -/
import Derived.Test.YtbfhfadfjgfmaaaSlice1
import Derived.RangeFuncNested
import Derived.RangeFuncBound
import Derived.RangeFuncCalls
import Derived.RangeFuncLeaves
import Derived.RangeFuncFrom
import Derived.RangeFuncBox
import Derived.WalkKit
import Derived.OwnWalkIn
import Derived.TacticsInMore
import Derived.LoopNIn
import Derived.LoopIn
import Derived.Maps.OwnIn
import Derived.Maps.AppendAt
import Derived.Test.YtbfhfadfjgfmaaaLate
import Derived.Sort.KeysCollected
import Derived.Shelf.SlSortCmp.NoneTotal
import Derived.Ground.SlsfProg
import Derived.Test.YtbfhfadfjgfmaaaProg
import Derived.Test.YtbfhfadfjgfmaaaLex
import Derived.Test.YtbfhfadfjgfmaaaArrs
import Derived.Test.YtbfhfadfjgfmaaaSafest
import Derived.Shelf.Abstract
import Derived.Test.YtbfhfadfjgfmaaaPlaces2
/- Whole arrays inside a fence: made, written, read, laid in a slice. Written by gen_arrseq.py. -/
set_option linter.unusedVariables false
set_option linter.unusedSimpArgs false
set_option linter.unusedSectionVars false
namespace Go.Proofs.Ytbfhfadfjgfmaaa
open Go.RowKit
section
variable {F : Fence} {n : Nat} {P : Program} {ops : Array Oper} {Q : Exit → Act → World → Prop} {a : Act} {w : World} {rest : List Oper} {o : Oper}
theorem inA_val (hg : o.guard = none) (hab : o.about P w a.eval = none) (hd : ∀ c, o.op ≠ .defer c) {v : Value} {w' : World} (hr : (execOp a.eval o).run P w = .ok (.value v) w') (h : wpListIn F n P ops Q rest (a.put o.dst v) w') : wpListIn F n P ops Q (o :: rest) a w :=
  wpListIn_plain hg fun K hK => ⟨by rw [hab]; simp, by rw [Oper.semAt_plain F _ _ hd, hr]; exact hK _ _ h⟩
theorem inA_skip (hg : o.guard = none) (hab : o.about P w a.eval = none) (hd : ∀ c, o.op ≠ .defer c) {w' : World} (hr : (execOp a.eval o).run P w = .ok .skip w') (h : wpListIn F n P ops Q rest (a.put o.dst undef) w') : wpListIn F n P ops Q (o :: rest) a w :=
  wpListIn_plain hg fun K hK => ⟨by rw [hab]; simp, by rw [Oper.semAt_plain F _ _ hd, hr]; exact hK _ _ h⟩
theorem inA_alloc (hg : o.guard = none) (ty : TypeId) (ho : o.op = .alloc ty) {k : Nat} {f : Nat → Value} (hz : ∀ w, (zeroValue ty).run P w = .ok (.agg (row k f)) w)
    (h : wpListIn F n P ops Q rest (a.put o.dst (.pointer (some ⟨w.heap.size, 0, none⟩))) (w.alloc (.cells (row k f) ty))) : wpListIn F n P ops Q (o :: rest) a w := by
  refine inA_val hg (by simp [Oper.about, ho]) (by rw [ho]; intro c hc; cases hc) ?_ h
  unfold execOp
  simp only [ho, Instr.alloc, newVar, newRow, Sem.run_bind, hz, Result.andThen_ok, Sem.run_pure, Value.cells]
  rfl
theorem inA_load (hg : o.guard = none) (ty : TypeId) (x : Operand) (ho : o.op = .load ty x) {g k : Nat} {T e : TypeId} {f : Nat → Value} (hb : Blk w g k T f) (hx : a.eval x = .pointer (some ⟨g, 0, none⟩)) (hu : P.underlying ty = some (.array k e)) (hi : (P.info? ty).map (·.size) = some k)
    (h : wpListIn F n P ops Q rest (a.put o.dst (.agg (row k f))) w) : wpListIn F n P ops Q (o :: rest) a w := by
  refine inA_val hg (by simp [Oper.about, ho]) (by rw [ho]; intro c hc; cases hc) ?_ h
  unfold execOp
  simp only [ho, hx, Instr.loadAt, Instr.sureAddr, Sem.run_bind, Sem.run_pure, Result.andThen_ok, run_loadVar_row w g T ty (row k f) (0, 0) _ hb hu rfl (by rw [row_size]; exact hi)]
theorem inA_store_new (hg : o.guard = none) (ty : TypeId) (x y : Operand) (ho : o.op = .store ty x y) {g k : Nat} {T : TypeId} {f q : Nat → Value} (hx : a.eval x = .pointer (some ⟨g, 0, none⟩)) (hy : a.eval y = .agg (row k q)) (hgs : g = w.heap.size) (hi : (P.info? ty).map (·.size) = some k)
    (h1 : ∀ i, i < k → (q i).oneCell' = true) (h : wpListIn F n P ops Q rest (a.put o.dst undef) (w.alloc (.cells (row k q) T))) : wpListIn F n P ops Q (o :: rest) a (w.alloc (.cells (row k f) T)) := by
  subst hgs
  have hall : (row k q).all (·.oneCell') = true := by
    rw [Array.all_eq_true]; intro i hi'; rw [row_size] at hi'
    have := row_get (f := q) hi'
    rw [Array.getElem?_eq_getElem (by rw [row_size]; exact hi')] at this
    rw [Option.some.inj this]; exact h1 i hi'
  have e : (w.alloc (.cells (row k f) T)).setRow w.heap.size (row k q) = w.alloc (.cells (row k q) T) := Go.World.setRow_alloc_new _ _ _ _
  refine inA_skip hg (by simp [Oper.about, ho]) (by rw [ho]; intro c hc; cases hc) ?_ h
  unfold execOp
  simp only [ho, hx, hy, Instr.storeAt, Instr.sureAddr, Sem.run_bind, Sem.run_pure, Result.andThen_ok, run_storeVar_row (w.alloc (.cells (row k f) T)) w.heap.size T ty (row k f) (row k q) (Blk.new w k T f) (by rw [row_size]; exact hi) (by simp [row_size]) hall, e]
theorem inA_slice (hg : o.guard = none) {ty : TypeId} {m : Nat} {parts : Array (Nat × Operand)} (ho : o.op = .buildSlice ty m parts) {vs : Array (Nat × Value)} {r : Value} {w' : World} (hv : parts.map (fun (i, x) => (i, a.eval x)) = vs) (hr : (Instr.buildSlice ty m vs).run P w = .ok r w')
    (h : wpListIn F n P ops Q rest (a.put o.dst r) w') : wpListIn F n P ops Q (o :: rest) a w := by
  refine inA_val hg (by simp [Oper.about, ho]) (by rw [ho]; intro c hc; cases hc) ?_ h
  unfold execOp
  simp only [ho, hv, Sem.run_bind, hr, Result.andThen_ok, Sem.run_pure]
end
theorem ap_frame (v x0 x1 x2 x3 x4 x5 x6 x7 x8 x9 x10 x11 x12 : Value) : (#[7].zip #[v]).foldl (fun t (x : Nat × Value) => match x with | (p, v) => t.setIfInBounds p v) #[x0, x1, x2, x3, x4, x5, x6, x7, x8, x9, x10, x11, x12] = #[x0, x1, x2, x3, x4, x5, x6, v, x8, x9, x10, x11, x12] := by
  first | rfl | simp | kernel_rfl
theorem blk_own {β : Type} (b n : Nat) (T : TypeId) (f : Nat → Value) : Own (fun (_ : β) W => Blk W b n T f) := by
  rintro s X Y row hb hg hrow
  refine hb.grown hg (fun e => ?_)
  obtain ⟨o, ho, hc⟩ := hrow b e.symm
  rw [show X.heap[b]? = _ from hb] at ho
  cases ho
  cases hc
end Go.Proofs.Ytbfhfadfjgfmaaa

/- slices.AppendSeq and slices.Collect at [][4]int, against whatever iterator. Written by gen_arrseq.py. -/
set_option linter.unusedVariables false
set_option linter.unusedSimpArgs false
set_option linter.unusedSectionVars false
namespace Go.Proofs.Ytbfhfadfjgfmaaa
open Go.RowKit
attribute [local go_sem] Oper.semAt_some
/-- The cells of a list of arrays. -/
def flat4 (xs : List (Nat → Int)) : List Value := xs.flatMap fun x => (row 4 (I x)).toList
theorem flat4_snoc (xs : List (Nat → Int)) (x : Nat → Int) : flat4 (xs ++ [x]) = flat4 xs ++ (row 4 (I x)).toList := by simp [flat4]
theorem row_one4 (x : Nat → Int) : ∀ u ∈ (row 4 (I x)).toList, u.oneCell' = true := fun u hu => by
  simp only [row, List.mem_map] at hu
  obtain ⟨j, _, rfl⟩ := hu
  rfl
theorem row_cells4 (x : Nat → Int) (W : World) : ∀ j u, (row 4 (I x)).toList[j]? = some u → (W.alloc (.cells (row 4 (I x)) 29)).cell? ((⟨W.heap.size, 0, none⟩ : Addr).add j) = some u := fun j u hu => by
  have hj : j < 4 := by
    by_cases h : j < 4
    · exact h
    · rw [List.getElem?_eq_none (by simp [row]; omega)] at hu; cases hu
  rw [addr_add, Nat.zero_add, (Blk.new W 4 29 (I x)).cell hj]
  rw [Array.getElem?_toList, row_get hj] at hu
  exact hu
theorem row_len4 (x : Nat → Int) : (row 4 (I x)).toList.length = 1 * 4 := by simp [row]
theorem inA_build1_4 {F : Fence} {n : Nat} {ops : Array Oper} {Q : Exit → Act → World → Prop} {a : Act} {w : World} {rest : List Oper} {o : Oper} (hg : o.guard = none) {x : Operand} (ho : o.op = .buildSlice 38 1 #[(0, x)]) {g : Nat → Int}
    (hx : a.eval x = .agg (row 4 (I g))) (h : wpListIn F n Try.prog ops Q rest (a.put o.dst (.slice (some ⟨w.heap.size, 0, none⟩) 1 1)) (w.alloc (.cells (row 4 (I g)) 29))) : wpListIn F n Try.prog ops Q (o :: rest) a w :=
  inA_slice hg ho (by simp [hx]) (built1_4 g w) h
set_option maxRecDepth 100000 in
set_option maxHeartbeats 400000 in
theorem appendSeq4_in (n : Nat) (hn : 3 ≤ n) {gf : Nat} {lb : Array Value} (eg : ∀ args w, (callFunc gf args).run Try.prog w = .ok (.enter gf args) w) {Kp : World → World → Prop} {S Sp : List (Nat → Int) → Prop} {N : Nat} (hN : N ≤ 100000) (w : World)
    (hseq : SeqStopsK Fence.wide (n - 1) Try.prog gf lb (fun x : Nat → Int => #[.agg (row 4 (I x))]) Kp S Sp N w) (hKt : ∀ {A B C : World}, Kp A B → Kp B C → Kp A C) (hKb : ∀ (W : World) (l : Nat) (o o' : Obj), w.heap.size ≤ l → W.heap[l]? = some o → o.isCells = false → o.isWalk = false → Kp W (W.putObj l o')) (hKo : ∀ A B, KeepsOthers A B → Below w.heap.size A B → Kp A B) :
    CallsIn Fence.wide n Try.prog 120 #[.slice none 0 0, .func (.func gf) #[] lb] w fun e W' => ∃ (v : Value) (xs : List (Nat → Int)), e = .returned v ∧ S xs ∧ W'.ownsRow w.heap.size 29 4 v xs.length (flat4 xs) ∧ (v = .slice none 0 0 ↔ xs = []) ∧ Below w.heap.size w W' := by
  have h1 : 1 ≤ n := by omega
  have hro : Fence.wide.round = none := rfl
  obtain ⟨i0, hi, hz0, hz1, hz2⟩ := info_parts infoA4
  refine callsIn_of_wp_marks Try.func120 rfl trivial ?_ rfl
  simp only [Try.ntmps120, List.size_toArray, List.length_cons, List.length_nil, Nat.reduceAdd, Nat.reduceSub, Array.replicate_succ, Array.replicate_zero, List.push_toArray, List.append_toArray, List.nil_append, List.cons_append]
  gi_wp2
  have bO := Boxed.new w 38 (.slice none 0 0)
  have hB0 : Below w.heap.size w (w.alloc (.cells #[.slice none 0 0] 38)) := (Below.refl _ w).alloc (Nat.le_refl _) _
  have hsz : (w.alloc (.cells #[.slice none 0 0] 38)).heap.size = w.heap.size + 1 := by simp
  obtain ⟨W0, hW0⟩ : ∃ W0, w.alloc (.cells #[.slice none 0 0] 38) = W0 := ⟨_, rfl⟩
  rw [hW0] at bO hB0 hsz ⊢
  clear hW0
  refine wpIn_rangeFunc_ownH hro h1 (gf := gf) (lb := lb) rfl trivial eg hseq hKt (fun W l o o' hl => hKb W l o o' (by omega)) hB0 (fun _ => rfl)
    (fun pre W => (∃ v, Boxed W w.heap.size 38 v ∧ W.ownsRow w.heap.size 29 4 v pre.length (flat4 pre) ∧ (v = .slice none 0 0 ↔ pre = [])) ∧ Below w.heap.size w W)
    (fun _ _ _ => False)
    (OwnFrom.and (Own.from (holdsRow_own w.heap.size w.heap.size 38 29 4 (fun pre => pre.length) (fun pre => flat4 pre) (fun pre v => v = .slice none 0 0 ↔ pre = [])) _) (ownFrom_below (Nat.le_refl _) (by omega)))
    (fun _ _ _ _ _ hs _ _ => hs)
    ⟨⟨_, bO, World.ownsRow_nil _ _ _ _, by simp⟩, hB0⟩
    (fun x a' W => ∃ Bx, w.heap.size < Bx ∧ Blk W Bx 4 29 (I x) ∧ a' = { tmps := #[.slice none 0 0, .func (.func gf) #[] lb, .pointer (some ⟨w.heap.size, 0, none⟩), undef, .slice none 0 0, .pointer (some ⟨Bx, 0, none⟩), .func (.func gf) #[] lb, .agg (row 4 (I x)), undef, undef, undef, undef, undef], defers := [] })
    (fun x a' _ X Y row hs hg hr => by obtain ⟨Bx, h1, h2, h3⟩ := hs; exact ⟨Bx, h1, blk_own Bx 4 _ _ () X Y row h2 hg (fun r e => (hr r e).2), h3⟩)
    ?assign ?body ?done ?stop
  case assign =>
    rintro l pre x W K ⟨⟨v, hv, hrow, hnil⟩, hB1⟩ hK
    rw [ap_frame]
    refine wpIn_region_lit ?_
    refine inA_alloc rfl 29 rfl zero4 ?_
    refine inA_store_new (q := I x) rfl 29 _ _ rfl rfl rfl rfl sz4 (fun _ _ => rfl) ?_
    refine wpListIn_nil ?_
    exact hK _ _ ((KeepsOthers.alloc _ _).from _) (hKo _ _ (KeepsOthers.alloc _ _) ((Below.refl _ W).alloc hB1.size _)) ⟨⟨v, hv.alloc _, hrow.alloc _, hnil⟩, hB1.alloc hB1.size _⟩ ⟨W.heap.size, hv.lt, Blk.new _ _ _ _, rfl⟩
  case body =>
    rintro l pre x a' W hl ⟨r, hr⟩ ⟨⟨v, hv, hrow, hnil⟩, hB⟩ ⟨Bx, hBx, bX, rfl⟩ hlt
    have hc := hv.cell
    gi_wp2_with (first
      | (refine inA_load rfl 29 _ rfl bX rfl Try.underlying29 sz4 ?_)
      | (refine inA_build1_4 rfl rfl (g := x) rfl ?_)
      | (gi_at_builtin; refine wpListIn_append_own _ rfl _ _ 38 rfl w.heap.size 29 i0 (.agg (row 4 (I fun _ => 0))) 4 (8 * 4) Try.underlying38 hi hz0 hz1 hz2 rfl (by decide) _ _ _ rfl (hrow.alloc _) ⟨W.heap.size, 0, none⟩ 1 1 (row 4 (I x)).toList rfl (row_len4 x) (row_cells4 x W) (row_one4 x) (by simp only [maxLen]; omega) (by omega) (by have := hB.size; simp; omega) ?_; intro v' w1 hown' hgrow _; obtain ⟨g', cap', rfl⟩ := ownsRow_succ hown'; obtain ⟨hv1, hv2, hr2, hk2, hb2⟩ := hv.appended (by decide) hrow hB.size (Nat.le_refl _) hown' hgrow; have hc1 := hv1.cell; have hf1 := hv1.frozen))
    exact ⟨hk2.from _, hKo _ _ hk2 hb2, ⟨_, hv2, by rw [flat4_snoc, List.length_append]; exact hr2, by simp⟩, hB.trans hb2⟩
  case done =>
    rintro D ys W hD hS ⟨⟨v, hv, hrow, hnil⟩, hB⟩ hK
    have hc := hv.cell
    gi_wp2
    refine ⟨by simp, .inl ⟨_, _, rfl, run_takeDeferred hK, ?_⟩⟩
    exact ⟨_, results_tmp rfl _ _ _, v, ys, rfl, hS, ownsRow_putObj hrow _ hK rfl, hnil, hB.trans (belowK_b (w := w) (Nat.le_refl _) W D _ _ (by omega) hK rfl rfl)⟩
  case stop =>
    rintro D c pre W _ _ h _
    exact h.elim
end Go.Proofs.Ytbfhfadfjgfmaaa

/- maps.Keys of a map keyed by patterns, collected: its keys, each once, in some order. -/
set_option linter.unusedVariables false
set_option linter.unusedSimpArgs false
set_option linter.unusedSectionVars false
namespace Go.Proofs.Ytbfhfadfjgfmaaa
open Go.RowKit Go.Maps Go.Sort Go.Shelf
attribute [local go_sem] Oper.semAt_some
def kb4 (f : Nat → Int) : List UInt8 := keyBytes [.int .i64 (f 0), .int .i64 (f 1), .int .i64 (f 2), .int .i64 (f 3)]
/-- A map's keys, each once. -/
def KeysOf (D0 : DataW Unit) (xs : List (Nat → Int)) : Prop := (∀ f ∈ xs, Wf4 f) ∧ (xs.map kb4).Nodup ∧ ∀ y, y ∈ xs.map kb4 ↔ has D0 (.string y) = true
set_option maxRecDepth 100000 in
set_option maxHeartbeats 1000000 in
theorem keys4_stops (m : Nat) (hm : 1 ≤ m) (Bm b nn : Nat) (D0 : DataW Unit) (w : World) (hBm : Bm < w.heap.size) (hc : w.cell? ⟨Bm, 0, none⟩ = some (.map (some b))) (hown0 : w.ownsMap Try.prog 29 (plainElem Try.prog 3) b nn D0) :
    SeqStopsK Fence.wide m Try.prog 100 #[.pointer (some ⟨Bm, 0, none⟩)] (fun x : Nat → Int => #[.agg (row 4 (I x))]) KeepsWalks (KeysOf D0) (fun _ => True) (Maps.size D0) w := fun l J Jx W hW hJ hJx hY h0 => by
  have hc' : W.cell? ⟨Bm, 0, none⟩ = some (.map (some b)) := (hW.cell (p := ⟨Bm, 0, none⟩) hBm).trans hc
  have hown : W.ownsMap Try.prog 29 (plainElem (H := Unit) Try.prog 3) b nn D0 := hown0.kept (grown_none hW none) (by simp)
  refine callsIn_of_wp Try.func100 rfl trivial ?_ rfl
  simp only [Try.ntmps100, List.size_toArray, List.length_cons, List.length_nil, Nat.reduceAdd, Nat.reduceSub, Array.replicate_succ, Array.replicate_zero, List.push_toArray, List.append_toArray, List.nil_append, List.cons_append]
  gi_wp2_with (first
    | (gi_at_range; refine wpListIn_range_own _ rfl _ 67 rfl 29 3 keyed4 Try.underlying67 _ b nn _ rfl hown ?_; intro w0 hrg0 hg0 hs0)
    | gi_in)
  (try go_frame)
  gi_loopw [3] (fun _ wr => ∃ (left : Lit → Bool) (cnt : Nat) (xs : List (Nat → Int)), wr.ranges Try.prog 29 (plainElem (H := Unit) Try.prog 3) b W.heap.size nn D0 left cnt ∧ xs.length + cnt ≤ Maps.size D0 ∧ Collected D0 left (xs.map kb4) ∧ (∀ f ∈ xs, Wf4 f) ∧ J xs wr)
    (fun _ wr => wr.rangeLeft b W.heap.size)
  case atStart =>
    exact ⟨_, _, [], hrg0, by simp, Collected.start D0, by simp, hJ [] W w0 none h0 hg0 (fun r e => by cases e)⟩
  case round =>
    obtain ⟨left, cnt, xs, hrg, hcs, hC, hV, hJs⟩ := hrel
    gi_wp2_with (first
      | (gi_at_next; refine wpListIn_next_ranges _ rfl _ rfl 29 keyed4 (plainElem Try.prog 3) (fun f : Nat → Int => .agg (row 4 (I f))) (Value.int .i64) (fun key kl hk => by obtain ⟨f, hf, _⟩ := key4_inv hk; exact ⟨f, hf⟩) (fun v y hv => by obtain ⟨c, rfl, _⟩ := plainElem_int_inv Try.underlying3 hv; exact ⟨c, rfl⟩) b W.heap.size nn _ _ _ rfl hrg ?_ ?_)
      | gi_in)
    · intro hc0 hl0
      gi_wp2
      go_end0
      exact ⟨⟨_, rfl⟩, .inl ⟨xs, ⟨hV, hC.1, fun y => by rw [hC.2 y, hl0]; simp⟩, hJs⟩⟩
    · intro f cc kl yd yp w2 cnt2 hkey hlk hv hat hrg2 hlt hg2 hs2 hen
      obtain ⟨f', hff, hwf, rfl⟩ := key4_inv hkey
      have hrow : row 4 (I f) = row 4 (I f') := by injection hff
      rw [hrow] at hen
      rw [hrow]
      have hJ1 : J xs w2 := hJ xs wr w2 (some W.heap.size) hJs hg2 (fun r e => by cases e; exact ⟨Nat.le_refl _, hrg.iter_walk⟩)
      have hJ2 : J xs (w2.alloc (.cells (row 4 (I f')) 29)) := hJ xs w2 _ none hJ1 (World.grownBy_alloc w2 _ none) (by simp)
      obtain ⟨fn, tmps, assign, body, hy, hR⟩ := hY xs f' _ hJ2 (by omega)
      have hC2 : Collected D0 (fun z => left z && !z.sameKey (kl4 f')) ((xs ++ [f']).map kb4) := by
        have h := hC.step (x := kb4 f') hlk hat
        rw [List.map_append]
        exact h
      have hV2 : ∀ g ∈ xs ++ [f'], Wf4 g := fun g hg => (List.mem_append.1 hg).elim (hV g) (fun e => by simp at e; subst e; exact hwf)
      clear hs2 hkey hff hrow hv hat
      gi_wp2_with (first
        | (refine inA_alloc rfl 29 rfl zero4 ?_)
        | (refine inA_store_new (q := I f') rfl 29 _ _ rfl rfl rfl rfl sz4 (fun _ _ => rfl) ?_)
        | (refine inA_load rfl 29 _ rfl (Blk.new _ _ _ _) rfl Try.underlying29 sz4 ?_))
      refine hR.mono ?_
      rintro e W3 (⟨rfl, hJ3, hk3⟩ | ⟨rfl, hJx3⟩)
      · gi_wp2
        have hrg3 := (hrg2.alloc (.cells (row 4 (I f')) 29)).of_walks hk3
        go_roundw
        case rel => exact ⟨_, cnt2, xs ++ [f'], hrg3, by simp; omega, hC2, hV2, hJ3⟩
        case measure => rw [hrg3.left_eq, hrg.left_eq]; exact hlt
      · gi_wp2
        refine bodyPost_ret (results_none rfl _ _ _) rfl ?_
        exact ⟨⟨_, rfl⟩, .inr ⟨_, trivial, hJx3⟩⟩
theorem collect4_any (Bm b nn : Nat) (D0 : DataW Unit) (hN : Maps.size D0 ≤ 100000) (w : World) (hBm : Bm < w.heap.size) (hc : w.cell? ⟨Bm, 0, none⟩ = some (.map (some b))) (hown : w.ownsMap Try.prog 29 (plainElem Try.prog 3) b nn D0) :
    Calls Try.prog 98 #[.func (.func 100) #[] #[.pointer (some ⟨Bm, 0, none⟩)]] w fun e w' => ∃ (v : Value) (xs : List (Nat → Int)), e = .returned v ∧ KeysOf D0 xs ∧ w'.ownsRow w.heap.size 29 4 v xs.length (flat4 xs) ∧ Below w.heap.size w w' := by
  have HS := Lib.hid (keys4_stops 5 (by omega) Bm b nn D0 w hBm hc hown)
  have eg : ∀ args w, (callFunc 100 args).run Try.prog w = .ok (.enter 100 args) w := enters_of Try.func100 (by kernel_rfl) rfl
  have EG := Lib.hid eg
  clear hc hown eg
  go_enter Try.func98, Try.ntmps98
  go_wp2_with fail
  go_at_call 120
  refine ((callsIn_wide (n := 6)).1 (appendSeq4_in 6 (by omega) EG.out hN w HS.out walksK_t (fun W l o o' hl => walksK_b (w := w) W l o o' hl) (fun A B ho _ => ⟨ho.size, fun k o hk hw => ho.same k o hk (Obj.not_cells_of_walk hw)⟩))).mono ?_
  rintro e w1 ⟨v, xs, rfl, hS, ho, -, hb⟩
  have HO := Lib.hid ho; have HB := Lib.hid hb; have HK := Lib.hid hS
  clear ho hb hS
  go_wp2
  go_ret
  exact ⟨v, xs, rfl, HK.out, HO.out, HB.out⟩
theorem keys4_any (mb : Option Nat) (w : World) : Calls Try.prog 59 #[.map mb] w fun e w' => e = .returned (.func (.func 100) #[] #[.pointer (some ⟨w.heap.size, 0, none⟩)]) ∧ w' = w.alloc (.cells #[.map mb] 67) := by
  go_enter Try.func59, Try.ntmps59
  go_wp2
  go_ret
  exact ⟨rfl, rfl⟩
end Go.Proofs.Ytbfhfadfjgfmaaa

/- slices.SortFunc's family at [][6]int and [][4]int at this translation: laid by the kit's tool in plain words. Seat Q alone: the numbers are its own. -/
set_option linter.unusedVariables false
set_option linter.unusedSimpArgs false
set_option linter.unusedSectionVars false
namespace Go.Proofs
open Go.Shelf
def Try.srt6_ren : Go.Shelf.Ren := ⟨fun | 6 => 89 | 15 => 107 | 14 => 115 | 28 => 130 | 29 => 131 | 20 => 136 | 21 => 137 | 22 => 138 | 23 => 139 | 24 => 140 | 25 => 141 | 26 => 142 | 27 => 143 | 46 => 160 | 47 => 155 | 48 => 156 | 49 => 161 | 50 => 162 | 57 => 175 | n => n, fun | 22 => 22 | 24 => 53 | 25 => 59 | 3 => 3 | 39 => 105 | 0 => 0 | 53 => 123 | 55 => 125 | 4 => 4 | 46 => 117 | 45 => 116 | 50 => 34 | 5 => 5 | 9 => 9 | 66 => 140 | 70 => 144 | 76 => 156 | 77 => 157 | n => n, fun | n => n⟩
theorem Try.srt6 : Go.Proofs.SlLaysF0.n6 Try.prog Try.srt6_ren := {
  mixed := by kernel_rfl
  f6 := ⟨Try.f89.name, by decide, Try.func89.trans (congrArg some (by kernel_rfl))⟩
  f14 := ⟨Try.f115.name, by decide, Try.func115.trans (congrArg some (by kernel_rfl))⟩
  f15 := Try.func107.trans (congrArg some (by kernel_rfl))
  f20 := ⟨Try.f136.name, by decide, Try.func136.trans (congrArg some (by kernel_rfl))⟩
  f21 := ⟨Try.f137.name, by decide, Try.func137.trans (congrArg some (by kernel_rfl))⟩
  f22 := ⟨Try.f138.name, by decide, Try.func138.trans (congrArg some (by kernel_rfl))⟩
  f23 := ⟨Try.f139.name, by decide, Try.func139.trans (congrArg some (by kernel_rfl))⟩
  f24 := ⟨Try.f140.name, by decide, Try.func140.trans (congrArg some (by kernel_rfl))⟩
  f25 := ⟨Try.f141.name, by decide, Try.func141.trans (congrArg some (by kernel_rfl))⟩
  f26 := ⟨Try.f142.name, by decide, Try.func142.trans (congrArg some (by kernel_rfl))⟩
  f27 := ⟨Try.f143.name, by decide, Try.func143.trans (congrArg some (by kernel_rfl))⟩
  f28 := Try.func130.trans (congrArg some (by kernel_rfl))
  f29 := Try.func131.trans (congrArg some (by kernel_rfl))
  f46 := ⟨Try.f160.name, by decide, Try.func160.trans (congrArg some (by kernel_rfl))⟩
  f47 := Try.func155.trans (congrArg some (by kernel_rfl))
  f48 := Try.func156.trans (congrArg some (by kernel_rfl))
  f49 := ⟨Try.f161.name, by decide, Try.func161.trans (congrArg some (by kernel_rfl))⟩
  f50 := ⟨Try.f162.name, by decide, Try.func162.trans (congrArg some (by kernel_rfl))⟩
  f57 := ⟨Try.f175.name, by decide, Try.func175.trans (congrArg some (by kernel_rfl))⟩
  t0 := Try.underlying0
  a0 := Try.isAgg0
  z0 := Try.sizeOf0
  v0 := Try.zeroValue0
  t3 := Try.underlying3
  a3 := Try.isAgg3
  z3 := Try.sizeOf3
  v3 := Try.zeroValue3
  t4 := Try.underlying4
  a4 := Try.isAgg4
  z4 := Try.sizeOf4
  v4 := Try.zeroValue4
  t5 := Try.underlying5
  a5 := Try.isAgg5
  z5 := Try.sizeOf5
  v5 := Try.zeroValue5
  t9 := Try.underlying9
  a9 := Try.isAgg9
  z9 := Try.sizeOf9
  v9 := Try.zeroValue9
  t22 := Try.underlying22
  a22 := Try.isAgg22
  z22 := Try.sizeOf22
  v22 := Try.zeroValue22
  t25 := Try.underlying59
  a25 := Try.isAgg59
  z25 := Try.sizeOf59
  v25 := Try.zeroValue59
  t39 := Try.underlying105
  a39 := Try.isAgg105
  z39 := Try.sizeOf105
  v39 := Try.zeroValue105
  t45 := Try.underlying116
  a45 := Try.isAgg116
  z45 := Try.sizeOf116
  v45 := Try.zeroValue116
  t46 := Try.underlying117
  a46 := Try.isAgg117
  z46 := Try.sizeOf117
  v46 := Try.zeroValue117
  t50 := Try.underlying34
  a50 := Try.isAgg34
  z50 := Try.sizeOf34
  v50 := Try.zeroValue34
  t53 := Try.underlying123
  a53 := Try.isAgg123
  z53 := Try.sizeOf123
  v53 := Try.zeroValue123
  t55 := Try.underlying125
  a55 := Try.isAgg125
  z55 := Try.sizeOf125
  v55 := Try.zeroValue125
  t66 := Try.underlying140
  a66 := Try.isAgg140
  z66 := Try.sizeOf140
  v66 := Try.zeroValue140
  t70 := Try.underlying144
  a70 := Try.isAgg144
  z70 := Try.sizeOf144
  v70 := Try.zeroValue144
  t76 := Try.underlying156
  a76 := Try.isAgg156
  z76 := Try.sizeOf156
  v76 := Try.zeroValue156
  t77 := Try.underlying157
  a77 := Try.isAgg157
  z77 := Try.sizeOf157
  v77 := Try.zeroValue157 }
def Try.srt4_ren : Go.Shelf.Ren := ⟨fun | 6 => 99 | 15 => 107 | 14 => 121 | 28 => 130 | 29 => 131 | 20 => 146 | 21 => 147 | 22 => 148 | 23 => 149 | 24 => 150 | 25 => 151 | 26 => 152 | 27 => 153 | 46 => 171 | 47 => 155 | 48 => 156 | 49 => 172 | 50 => 173 | 57 => 179 | n => n, fun | 22 => 38 | 24 => 29 | 25 => 73 | 3 => 3 | 39 => 105 | 0 => 0 | 53 => 123 | 55 => 125 | 4 => 4 | 46 => 117 | 45 => 116 | 50 => 34 | 5 => 5 | 9 => 9 | 66 => 140 | 70 => 144 | 76 => 156 | 77 => 157 | n => n, fun | n => n⟩
theorem Try.srt4 : Go.Proofs.SlLaysF0.n6 Try.prog Try.srt4_ren := {
  mixed := by kernel_rfl
  f6 := ⟨Try.f99.name, by decide, Try.func99.trans (congrArg some (by kernel_rfl))⟩
  f14 := ⟨Try.f121.name, by decide, Try.func121.trans (congrArg some (by kernel_rfl))⟩
  f15 := Try.func107.trans (congrArg some (by kernel_rfl))
  f20 := ⟨Try.f146.name, by decide, Try.func146.trans (congrArg some (by kernel_rfl))⟩
  f21 := ⟨Try.f147.name, by decide, Try.func147.trans (congrArg some (by kernel_rfl))⟩
  f22 := ⟨Try.f148.name, by decide, Try.func148.trans (congrArg some (by kernel_rfl))⟩
  f23 := ⟨Try.f149.name, by decide, Try.func149.trans (congrArg some (by kernel_rfl))⟩
  f24 := ⟨Try.f150.name, by decide, Try.func150.trans (congrArg some (by kernel_rfl))⟩
  f25 := ⟨Try.f151.name, by decide, Try.func151.trans (congrArg some (by kernel_rfl))⟩
  f26 := ⟨Try.f152.name, by decide, Try.func152.trans (congrArg some (by kernel_rfl))⟩
  f27 := ⟨Try.f153.name, by decide, Try.func153.trans (congrArg some (by kernel_rfl))⟩
  f28 := Try.func130.trans (congrArg some (by kernel_rfl))
  f29 := Try.func131.trans (congrArg some (by kernel_rfl))
  f46 := ⟨Try.f171.name, by decide, Try.func171.trans (congrArg some (by kernel_rfl))⟩
  f47 := Try.func155.trans (congrArg some (by kernel_rfl))
  f48 := Try.func156.trans (congrArg some (by kernel_rfl))
  f49 := ⟨Try.f172.name, by decide, Try.func172.trans (congrArg some (by kernel_rfl))⟩
  f50 := ⟨Try.f173.name, by decide, Try.func173.trans (congrArg some (by kernel_rfl))⟩
  f57 := ⟨Try.f179.name, by decide, Try.func179.trans (congrArg some (by kernel_rfl))⟩
  t0 := Try.underlying0
  a0 := Try.isAgg0
  z0 := Try.sizeOf0
  v0 := Try.zeroValue0
  t3 := Try.underlying3
  a3 := Try.isAgg3
  z3 := Try.sizeOf3
  v3 := Try.zeroValue3
  t4 := Try.underlying4
  a4 := Try.isAgg4
  z4 := Try.sizeOf4
  v4 := Try.zeroValue4
  t5 := Try.underlying5
  a5 := Try.isAgg5
  z5 := Try.sizeOf5
  v5 := Try.zeroValue5
  t9 := Try.underlying9
  a9 := Try.isAgg9
  z9 := Try.sizeOf9
  v9 := Try.zeroValue9
  t22 := Try.underlying38
  a22 := Try.isAgg38
  z22 := Try.sizeOf38
  v22 := Try.zeroValue38
  t25 := Try.underlying73
  a25 := Try.isAgg73
  z25 := Try.sizeOf73
  v25 := Try.zeroValue73
  t39 := Try.underlying105
  a39 := Try.isAgg105
  z39 := Try.sizeOf105
  v39 := Try.zeroValue105
  t45 := Try.underlying116
  a45 := Try.isAgg116
  z45 := Try.sizeOf116
  v45 := Try.zeroValue116
  t46 := Try.underlying117
  a46 := Try.isAgg117
  z46 := Try.sizeOf117
  v46 := Try.zeroValue117
  t50 := Try.underlying34
  a50 := Try.isAgg34
  z50 := Try.sizeOf34
  v50 := Try.zeroValue34
  t53 := Try.underlying123
  a53 := Try.isAgg123
  z53 := Try.sizeOf123
  v53 := Try.zeroValue123
  t55 := Try.underlying125
  a55 := Try.isAgg125
  z55 := Try.sizeOf125
  v55 := Try.zeroValue125
  t66 := Try.underlying140
  a66 := Try.isAgg140
  z66 := Try.sizeOf140
  v66 := Try.zeroValue140
  t70 := Try.underlying144
  a70 := Try.isAgg144
  z70 := Try.sizeOf144
  v70 := Try.zeroValue144
  t76 := Try.underlying156
  a76 := Try.isAgg156
  z76 := Try.sizeOf156
  v76 := Try.zeroValue156
  t77 := Try.underlying157
  a77 := Try.isAgg157
  z77 := Try.sizeOf157
  v77 := Try.zeroValue157 }
end Go.Proofs

/- Arrays of ints in lexicographic order. In plain Lean. Written by gen_srta.py. -/
set_option linter.unusedVariables false
set_option linter.unusedSimpArgs false
set_option linter.unusedSectionVars false
namespace Go.Proofs.Ytbfhfadfjgfmaaa
open Go.RowKit Go.Sort Go.Shelf
theorem lex_lt (a b : Nat → Int) (n s : Nat) : lexI a b (n + 1) s < 0 ↔ a s < b s ∨ (a s = b s ∧ lexI a b n (s + 1) < 0) := by
  simp only [lexI]
  by_cases h : cmpI (a s) (b s) = 0
  · rw [if_pos h]
    have := (cmpI_zero _ _).1 h
    omega
  · rw [if_neg h, cmpI_neg]
    have : a s ≠ b s := fun e => h ((cmpI_zero _ _).2 e)
    omega
theorem lex_irr (a : Nat → Int) : ∀ n s, ¬ lexI a a n s < 0
  | 0, _ => by simp [lexI]
  | n + 1, s => by rw [lex_lt]; have := lex_irr a n (s + 1); omega
theorem lex_trans (a b c : Nat → Int) : ∀ n s, lexI a b n s < 0 → lexI b c n s < 0 → lexI a c n s < 0
  | 0, _ => by simp [lexI]
  | n + 1, s => by
    rw [lex_lt, lex_lt, lex_lt]
    have := lex_trans a b c n (s + 1)
    omega
theorem lex_ntrans (a b c : Nat → Int) : ∀ n s, ¬ lexI a b n s < 0 → ¬ lexI b c n s < 0 → ¬ lexI a c n s < 0
  | 0, _ => by simp [lexI]
  | n + 1, s => by
    rw [lex_lt, lex_lt, lex_lt]
    have := lex_ntrans a b c n (s + 1)
    omega
theorem lex_total (a b : Nat → Int) : ∀ n s, ¬ lexI a b n s < 0 → ¬ lexI b a n s < 0 → ∀ p, s ≤ p → p < s + n → a p = b p
  | 0, s => fun _ _ p h1 h2 => by omega
  | n + 1, s => by
    rw [lex_lt, lex_lt]
    intro h1 h2 p h3 h4
    by_cases e : p = s
    · subst e; omega
    · exact lex_total a b n (s + 1) (by omega) (by omega) p (by omega) (by omega)
/-- An array of k ints. -/
abbrev AK (k : Nat) := { f : Nat → Int // ∀ p, k ≤ p → f p = 0 }
instance (k : Nat) : Inhabited (AK k) := ⟨⟨fun _ => 0, fun _ _ => rfl⟩⟩
def trimA (k : Nat) (f : Nat → Int) : AK k := ⟨fun p => if p < k then f p else 0, fun p h => if_neg (by omega)⟩
theorem trim_at (k : Nat) (f : Nat → Int) {p : Nat} (h : p < k) : (trimA k f).1 p = f p := if_pos h
theorem ak_ext {k : Nat} {x y : AK k} (h : ∀ p, p < k → x.1 p = y.1 p) : x = y := Subtype.ext (funext fun p => by
  by_cases c : p < k
  · exact h p c
  · rw [x.2 p (by omega), y.2 p (by omega)])
def encA (k : Nat) (x : AK k) : List Value := (List.range k).map (I x.1)
theorem encA_len (k : Nat) (x : AK k) : (encA k x).length = k := by simp [encA]
theorem encA_one (k : Nat) (x : AK k) : ∀ v ∈ encA k x, v.oneCell' = true := fun v hv => by
  simp only [encA, List.mem_map] at hv
  obtain ⟨j, _, rfl⟩ := hv
  rfl
theorem encA_arr (k : Nat) (x : AK k) : (encA k x).toArray = row k (I x.1) := rfl
/-- The lesser first, the greater first. -/
def upA (k : Nat) (x y : AK k) : Int := lexI x.1 y.1 k 0
def downA (k : Nat) (x y : AK k) : Int := lexI y.1 x.1 k 0
theorem up_swo (k : Nat) : Sort.SWO (ltOf (upA k)) where
  irrefl x := decide_eq_false (lex_irr _ _ _)
  trans x y z h1 h2 := decide_eq_true (lex_trans _ _ _ _ _ (of_decide_eq_true h1) (of_decide_eq_true h2))
  ntrans x y z h1 h2 := decide_eq_false (lex_ntrans _ _ _ _ _ (of_decide_eq_false h1) (of_decide_eq_false h2))
theorem down_swo (k : Nat) : Sort.SWO (ltOf (downA k)) where
  irrefl x := decide_eq_false (lex_irr _ _ _)
  trans x y z h1 h2 := decide_eq_true (lex_trans _ _ _ _ _ (of_decide_eq_true h2) (of_decide_eq_true h1))
  ntrans x y z h1 h2 := decide_eq_false (lex_ntrans _ _ _ _ _ (of_decide_eq_false h2) (of_decide_eq_false h1))
theorem up_total (k : Nat) (x y : AK k) (h1 : ltOf (upA k) x y = false) (h2 : ltOf (upA k) y x = false) : x = y :=
  ak_ext fun p hp => lex_total _ _ k 0 (of_decide_eq_false h1) (of_decide_eq_false h2) p (by omega) (by omega)
theorem down_total (k : Nat) (x y : AK k) (h1 : ltOf (downA k) x y = false) (h2 : ltOf (downA k) y x = false) : x = y :=
  ak_ext fun p hp => lex_total _ _ k 0 (of_decide_eq_false h2) (of_decide_eq_false h1) p (by omega) (by omega)
/-- What is a permutation and in order is what the sort answers. -/
theorem sorted_is {k : Nat} {cf : AK k → AK k → Int} (hO : Sort.SWO (ltOf cf)) (hT : ∀ x y, ltOf cf x y = false → ltOf cf y x = false → x = y) {l l' : List (AK k)} (hp : l'.Perm l) (hs : l'.Pairwise (fun x y => ltOf cf y x = false)) : l.mergeSort (fun x y => !(ltOf cf) y x) = l' := by
  refine List.Perm.eq_of_pairwise (le := fun x y => ltOf cf y x = false) (fun x y _ _ h1 h2 => hT x y h2 h1) ?_ hs ((List.mergeSort_perm _ _).trans hp.symm)
  have tr : ∀ a b c : AK k, (!(ltOf cf) b a) = true → (!(ltOf cf) c b) = true → (!(ltOf cf) c a) = true := fun a b c h1 h2 => by
    simp only [Bool.not_eq_true'] at *
    exact hO.ntrans c b a h2 h1
  have to : ∀ a b : AK k, ((!(ltOf cf) b a) || (!(ltOf cf) a b)) = true := fun a b => by
    cases e : ltOf cf b a
    · rfl
    · cases e2 : ltOf cf a b
      · rfl
      · have := hO.trans a b a e2 e
        rw [hO.irrefl] at this
        cases this
  exact (List.pairwise_mergeSort tr to l).imp (fun h => by simpa using h)
theorem grown_sorted {k : Nat} {w : World} {g n : Nat} {os : Array Obj} (d : Array (AK k)) : w.grownBy (sortWorldK (encA k) k w g 0 n d os) (some g) := by
  unfold sortWorldK putRowK
  refine ⟨rfl, rfl, rfl, by simp, fun k hk hne => ?_⟩
  rw [heap_grow_old _ _ (by simpa using hk)]
  have : g ≠ k := fun e => hne (by rw [e])
  simp [putRow, mapBlock, Sort.ahead, Array.getElem?_modify, this]
theorem heap_sortedA {k : Nat} {w : World} {g n : Nat} {os : Array Obj} {cur : Array Value} {e : TypeId} {fr : Nat × Nat} (d : Array (AK k)) (hb : w.heap[g]? = some (.cells cur e fr)) :
    (sortWorldK (encA k) k w g 0 n d os).heap[g]? = some (.cells (putCells id 0 (flatK (encA k) k d) cur) e fr) := by
  unfold sortWorldK putRowK
  have hg : g < w.heap.size := (Array.getElem?_eq_some_iff.1 hb).1
  rw [heap_grow_old _ _ (by simpa using hg)]
  simp [putRow, mapBlock, Sort.ahead, Array.getElem?_modify, hb, onCells]
theorem flatK_at {k : Nat} (hk : 0 < k) (n : Nat) (y : Nat → Nat → Int) {j : Nat} (hj : j < n * k) : (flatK (encA k) k ((List.range n).map fun i => trimA k (y i)).toArray)[j]! = .int .i64 (y (j / k) (j % k)) := by
  have h1 : j / k < n := Nat.div_lt_of_lt_mul (by rw [Nat.mul_comm]; exact hj)
  have h2 : j % k < k := Nat.mod_lt _ hk
  rw [get_flatK _ _ _ _ (by simpa using hj)]
  have e : ((List.range n).map fun i => trimA k (y i)).toArray[j / k]! = trimA k (y (j / k)) := by
    rw [getElem!_pos _ _ (by simpa using h1)]
    simp
  rw [e]
  rw [getElem!_pos _ _ (by rw [encA_len]; exact h2)]
  simp only [encA, List.getElem_map, List.getElem_range, I, trim_at k _ h2]
/-- A row of cells with a list of arrays put ahead. -/
theorem put_row {k : Nat} (hk : 0 < k) (n N : Nat) (F : Nat → Value) (y : Nat → Nat → Int) (hN : n * k ≤ N) : putCells id 0 (flatK (encA k) k ((List.range n).map fun i => trimA k (y i)).toArray) (row N F) = row N (fun j => if j < n * k then .int .i64 (y (j / k) (j % k)) else F j) := by
  apply Array.ext
  · simp [putCells, row_size]
  · intro j h1 h2
    rw [row_size] at h2
    have e2 : (row N (fun j => if j < n * k then Value.int .i64 (y (j / k) (j % k)) else F j))[j]'(by rw [row_size]; exact h2) = if j < n * k then .int .i64 (y (j / k) (j % k)) else F j := by simp [row]
    rw [e2]
    have e3 : (row N F)[j]'(by rw [row_size]; exact h2) = F j := by simp [row]
    by_cases c : j < n * k
    · rw [if_pos c, ← flatK_at hk n y c]
      simp [putCells, c]
    · rw [if_neg c]
      simp [putCells, c, e3]
end Go.Proofs.Ytbfhfadfjgfmaaa

/- slices.SortFunc at [][4]int by comparePatterns. Written by gen_srta.py. -/
set_option linter.unusedVariables false
set_option linter.unusedSimpArgs false
set_option linter.unusedSectionVars false
namespace Go.Proofs.Ytbfhfadfjgfmaaa
open Go.RowKit Go.Sort Go.Shelf
theorem cmpExact4 (a b : Nat → Int) (w : World) : Calls Try.prog 60 #[.agg (row 4 (I a)), .agg (row 4 (I b))] w fun e w' => e = .returned (.int .i64 (lexI b a 4 0)) ∧ ∃ q os', w' = grow (w.drewN q) os' := by
  go_enter Try.func60, Try.ntmps60
  go_wp2
  go_quiet ((go_at_call 76; exact quiet_eq (sliceCompare_any _ _ 4 _ _ b a (by omega) _ ((Blk.newS (by simp)).drewN _) (((Blk.new _ _ 29 _).alloc _).drewN _))))
  go_wp2
  go_ret
  exact ⟨rfl, _, #[.cells (row 4 (I a)) 29, .cells (row 4 (I b)) 29], by rw [alloc_eq_grow, alloc_eq_grow, grow_grow]; rfl⟩
theorem cmpLays4 (blk off size : Nat) (w : World) : CmpLays Try.prog 60 #[] (encA 4) 4 (downA 4) blk off size w := fun _ _ _ _ x y => cmpExact4 x.1 y.1 _
theorem sortArr4_any (g cap : Nat) (d : Array (AK 4)) (hsz : d.size ≤ 100000) (w : World) (hH : HoldsK (encA 4) 4 w g 0 d) (hg : g < w.heap.size) :
    Calls Try.prog 99 #[.slice (some ⟨g, 0, none⟩) d.size cap, .func (.func 60) #[] #[]] w fun e w' => e = .returned (.tuple #[]) ∧ HoldsK (encA 4) 4 w' g 0 (d.toList.mergeSort fun x y => !(ltOf (downA 4)) y x).toArray ∧ w.grownBy w' (some g) ∧ ∀ cur T, w.heap[g]? = some (.cells cur T (0, 0)) → w'.heap[g]? = some (.cells (putCells id 0 (flatK (encA 4) 4 (d.toList.mergeSort fun x y => !(ltOf (downA 4)) y x).toArray) cur) T (0, 0)) := by
  have eg : ∀ args w, (callFunc 60 args).run Try.prog w = .ok (.enter 60 args) w := enters_of Try.func60 (by kernel_rfl) rfl
  refine (AnyQ.slices_SortFunc_total Try.srt4 4 Try.isAgg29 Try.sizeOf29 (encA 4) (encA_len 4) (encA_one 4) (downA 4) (down_swo 4) 60 #[] g 0 cap d w eg (cmpLays4 _ _ _ _) hH hg (by omega) (down_total 4)).mono ?_
  rintro e w' ⟨rfl, n, os, rfl⟩
  exact ⟨rfl, holdsK_sortWorldK_c (encA 4) 4 w g 0 d _ n os hH hg (by simp), grown_sorted _, fun cur T h => heap_sortedA _ h⟩
end Go.Proofs.Ytbfhfadfjgfmaaa

/- slices.SortedFunc of a map's patterns by comparePatterns. -/
set_option linter.unusedVariables false
set_option linter.unusedSimpArgs false
set_option linter.unusedSectionVars false
namespace Go.Proofs.Ytbfhfadfjgfmaaa
open Go.RowKit Go.Sort Go.Shelf Go.Maps
theorem flat4_len (xs : List (Nat → Int)) : (flat4 xs).length = xs.length * 4 := by
  induction xs with
  | nil => rfl
  | cons x r ih => rw [show flat4 (x :: r) = (row 4 (I x)).toList ++ flat4 r by simp [flat4], List.length_append, ih]; simp [row]; omega
theorem upto_succ4 {α : Type} (f : Nat → α) (k : Nat) : (List.range (k + 1)).map f = (List.range k).map f ++ [f k] := by simp [List.range_succ]
theorem flat4_at (x : Nat → Nat → Int) : ∀ n j, j < n * 4 → (flat4 ((List.range n).map x))[j]? = some (.int .i64 (x (j / 4) (j % 4)))
  | 0, _, h => by omega
  | n + 1, j, h => by
    rw [upto_succ4, flat4_snoc]
    have hl : (flat4 ((List.range n).map x)).length = n * 4 := by rw [flat4_len]; simp
    by_cases c : j < n * 4
    · rw [List.getElem?_append_left (by omega)]
      exact flat4_at x n j c
    · rw [List.getElem?_append_right (by omega), hl]
      have e1 : j / 4 = n := by omega
      have e2 : j % 4 = j - n * 4 := by omega
      rw [Array.getElem?_toList, row_get (by omega), e1, e2]
      rfl
/-- n patterns as a list. -/
def patsL (n : Nat) (x : Nat → Nat → Int) : List (AK 4) := (List.range n).map fun i => trimA 4 (x i)
def flatQ (y : Nat → Nat → Int) : Nat → Int := fun q => y (q / 4) (q % 4)
theorem list_fun (xs : List (Nat → Int)) : xs = (List.range xs.length).map (fun i => xs.getD i (fun _ => 0)) := by
  apply List.ext_getElem?
  intro p
  by_cases h : p < xs.length
  · simp [h, List.getD_eq_getElem?_getD]
  · rw [List.getElem?_eq_none (by omega), List.getElem?_eq_none (by simp; omega)]
/-- xs is the list of n keys that come to y when they are sorted. -/
def SortsTo (D0 : DataW Unit) (n : Nat) (y : Nat → Nat → Int) : Prop := ∀ xs, KeysOf D0 xs → xs.length = n ∧ (xs.map (trimA 4)).mergeSort (fun p q => !(ltOf (downA 4)) q p) = patsL n y
theorem sorted4_any (Bm b nn n : Nat) (y : Nat → Nat → Int) (D0 : DataW Unit) (hN : Maps.size D0 ≤ 100000) (h1 : 1 ≤ n) (hn : n ≤ 100000) (hy : SortsTo D0 n y) (w : World) (hBm : Bm < w.heap.size) (hc : w.cell? ⟨Bm, 0, none⟩ = some (.map (some b))) (hown : w.ownsMap Try.prog 29 (plainElem Try.prog 3) b nn D0) :
    Calls Try.prog 58 #[.func (.func 100) #[] #[.pointer (some ⟨Bm, 0, none⟩)], .func (.func 60) #[] #[]] w fun e w' => ∃ (o : Option Addr) (cp : Nat), e = .returned (.slice o n cp) ∧ Arrs w' 29 4 w.heap.size o n cp (flatQ y) ∧ Below w.heap.size w w' := by
  have HO := Lib.hid hown; have HC := Lib.hid hc; have HY := Lib.hid hy
  clear hown hc hy
  go_enter Try.func58, Try.ntmps58
  go_wp2_with fail
  go_at_call 98
  refine (collect4_any Bm b nn D0 hN _ hBm HC.out HO.out).mono ?_
  rintro e w1 ⟨v, xs, rfl, hk, ho, hb⟩
  obtain ⟨hlen, hsort⟩ := HY.out xs hk
  obtain ⟨x, hx0⟩ : ∃ x : Nat → Nat → Int, x = fun i => xs.getD i (fun _ => 0) := ⟨_, rfl⟩
  have hxs : xs = (List.range n).map x := by rw [hx0, ← hlen]; exact list_fun xs
  rw [hlen] at ho
  rw [hxs, List.map_map] at hsort
  rw [hxs] at ho
  clear hk hx0
  obtain ⟨g, cap, rfl, hg⟩ : ∃ g cap, v = .slice (some ⟨g, 0, none⟩) n cap ∧ w.heap.size ≤ g := by
    rcases ho.2 with ⟨_, h0⟩ | ⟨g, cap, cur, hv, hb, _⟩
    · omega
    · exact ⟨g, cap, hv, hb⟩
  obtain ⟨g', F, he, -, -, hnc, hcm, hB, hx, hgl⟩ := own_form ho (by omega)
  injection he with he
  injection he with he _
  subst he
  have hF : ∀ j, j < n * 4 → F j = .int .i64 (x (j / 4) (j % 4)) := fun j hj => by
    have := hx j hj
    rw [flat4_at x n j hj] at this
    exact (Option.some.inj this).symm
  have hds : (patsL n x).toArray.size = n := by simp [patsL]
  have HH := Lib.hid (show HoldsK (encA 4) 4 w1 g 0 (patsL n x).toArray from fun j hj => by
    rw [size_flatK, hds] at hj
    rw [Nat.zero_add, hB.cell (by omega), hF j hj]
    exact ⟨congrArg some (flatK_at (by omega) n x hj).symm, hB.free _⟩)
  have HS := Lib.hid (show (patsL n x).mergeSort (fun p q => !(ltOf (downA 4)) q p) = patsL n y from hsort)
  have HB1 := Lib.hid hB; have HB := Lib.hid hb; have HG := Lib.hid hg; have HL := Lib.hid hgl; have NC := Lib.hid hnc; have CM := Lib.hid hcm
  clear hB hb hg ho hx hF hgl hnc hcm hsort hxs hlen
  go_wp2_with fail
  go_at_call 99
  have hS := sortArr4_any g cap (patsL n x).toArray (by rw [hds]; omega) w1 HH.out HL.out
  rw [hds] at hS
  refine hS.mono ?_
  rintro e w2 ⟨rfl, -, hG2, hput⟩
  have hput := hput _ _ HB1.out
  rw [show (patsL n x).toArray.toList = patsL n x from rfl, HS.out, show patsL n y = (List.range n).map fun i => trimA 4 (y i) from rfl, put_row (by omega) n _ F y (by have := NC.out; omega)] at hput
  have HP := Lib.hid (show Blk w2 g (cap * 4) 29 _ from hput)
  have HG2 := Lib.hid hG2
  clear hput hG2 hS
  go_wp2
  go_ret
  exact ⟨_, cap, rfl, Arrs.ofBlk HG.out NC.out CM.out HP.out (fun i hi => if_pos hi), below_grown HB.out HG2.out (fun k e => by cases e; exact HG.out) HB.out.size⟩
end Go.Proofs.Ytbfhfadfjgfmaaa

/- slices.AppendSeq and slices.Collect at [][6]int, against whatever iterator. Written by gen_arrseq.py. -/
set_option linter.unusedVariables false
set_option linter.unusedSimpArgs false
set_option linter.unusedSectionVars false
namespace Go.Proofs.Ytbfhfadfjgfmaaa
open Go.RowKit
attribute [local go_sem] Oper.semAt_some
/-- The cells of a list of arrays. -/
def flat6 (xs : List (Nat → Int)) : List Value := xs.flatMap fun x => (row 6 (I x)).toList
theorem flat6_snoc (xs : List (Nat → Int)) (x : Nat → Int) : flat6 (xs ++ [x]) = flat6 xs ++ (row 6 (I x)).toList := by simp [flat6]
theorem row_one6 (x : Nat → Int) : ∀ u ∈ (row 6 (I x)).toList, u.oneCell' = true := fun u hu => by
  simp only [row, List.mem_map] at hu
  obtain ⟨j, _, rfl⟩ := hu
  rfl
theorem row_cells6 (x : Nat → Int) (W : World) : ∀ j u, (row 6 (I x)).toList[j]? = some u → (W.alloc (.cells (row 6 (I x)) 53)).cell? ((⟨W.heap.size, 0, none⟩ : Addr).add j) = some u := fun j u hu => by
  have hj : j < 6 := by
    by_cases h : j < 6
    · exact h
    · rw [List.getElem?_eq_none (by simp [row]; omega)] at hu; cases hu
  rw [addr_add, Nat.zero_add, (Blk.new W 6 53 (I x)).cell hj]
  rw [Array.getElem?_toList, row_get hj] at hu
  exact hu
theorem row_len6 (x : Nat → Int) : (row 6 (I x)).toList.length = 1 * 6 := by simp [row]
theorem inA_build1_6 {F : Fence} {n : Nat} {ops : Array Oper} {Q : Exit → Act → World → Prop} {a : Act} {w : World} {rest : List Oper} {o : Oper} (hg : o.guard = none) {x : Operand} (ho : o.op = .buildSlice 22 1 #[(0, x)]) {g : Nat → Int}
    (hx : a.eval x = .agg (row 6 (I g))) (h : wpListIn F n Try.prog ops Q rest (a.put o.dst (.slice (some ⟨w.heap.size, 0, none⟩) 1 1)) (w.alloc (.cells (row 6 (I g)) 53))) : wpListIn F n Try.prog ops Q (o :: rest) a w :=
  inA_slice hg ho (by simp [hx]) (built1_6 g w) h
set_option maxRecDepth 100000 in
set_option maxHeartbeats 400000 in
theorem appendSeq6_in (n : Nat) (hn : 3 ≤ n) {gf : Nat} {lb : Array Value} (eg : ∀ args w, (callFunc gf args).run Try.prog w = .ok (.enter gf args) w) {Kp : World → World → Prop} {S Sp : List (Nat → Int) → Prop} {N : Nat} (hN : N ≤ 100000) (w : World)
    (hseq : SeqStopsK Fence.wide (n - 1) Try.prog gf lb (fun x : Nat → Int => #[.agg (row 6 (I x))]) Kp S Sp N w) (hKt : ∀ {A B C : World}, Kp A B → Kp B C → Kp A C) (hKb : ∀ (W : World) (l : Nat) (o o' : Obj), w.heap.size ≤ l → W.heap[l]? = some o → o.isCells = false → o.isWalk = false → Kp W (W.putObj l o')) (hKo : ∀ A B, KeepsOthers A B → Below w.heap.size A B → Kp A B) :
    CallsIn Fence.wide n Try.prog 114 #[.slice none 0 0, .func (.func gf) #[] lb] w fun e W' => ∃ (v : Value) (xs : List (Nat → Int)), e = .returned v ∧ S xs ∧ W'.ownsRow w.heap.size 53 6 v xs.length (flat6 xs) ∧ (v = .slice none 0 0 ↔ xs = []) ∧ Below w.heap.size w W' := by
  have h1 : 1 ≤ n := by omega
  have hro : Fence.wide.round = none := rfl
  obtain ⟨i0, hi, hz0, hz1, hz2⟩ := info_parts infoA6
  refine callsIn_of_wp_marks Try.func114 rfl trivial ?_ rfl
  simp only [Try.ntmps114, List.size_toArray, List.length_cons, List.length_nil, Nat.reduceAdd, Nat.reduceSub, Array.replicate_succ, Array.replicate_zero, List.push_toArray, List.append_toArray, List.nil_append, List.cons_append]
  gi_wp2
  have bO := Boxed.new w 22 (.slice none 0 0)
  have hB0 : Below w.heap.size w (w.alloc (.cells #[.slice none 0 0] 22)) := (Below.refl _ w).alloc (Nat.le_refl _) _
  have hsz : (w.alloc (.cells #[.slice none 0 0] 22)).heap.size = w.heap.size + 1 := by simp
  obtain ⟨W0, hW0⟩ : ∃ W0, w.alloc (.cells #[.slice none 0 0] 22) = W0 := ⟨_, rfl⟩
  rw [hW0] at bO hB0 hsz ⊢
  clear hW0
  refine wpIn_rangeFunc_ownH hro h1 (gf := gf) (lb := lb) rfl trivial eg hseq hKt (fun W l o o' hl => hKb W l o o' (by omega)) hB0 (fun _ => rfl)
    (fun pre W => (∃ v, Boxed W w.heap.size 22 v ∧ W.ownsRow w.heap.size 53 6 v pre.length (flat6 pre) ∧ (v = .slice none 0 0 ↔ pre = [])) ∧ Below w.heap.size w W)
    (fun _ _ _ => False)
    (OwnFrom.and (Own.from (holdsRow_own w.heap.size w.heap.size 22 53 6 (fun pre => pre.length) (fun pre => flat6 pre) (fun pre v => v = .slice none 0 0 ↔ pre = [])) _) (ownFrom_below (Nat.le_refl _) (by omega)))
    (fun _ _ _ _ _ hs _ _ => hs)
    ⟨⟨_, bO, World.ownsRow_nil _ _ _ _, by simp⟩, hB0⟩
    (fun x a' W => ∃ Bx, w.heap.size < Bx ∧ Blk W Bx 6 53 (I x) ∧ a' = { tmps := #[.slice none 0 0, .func (.func gf) #[] lb, .pointer (some ⟨w.heap.size, 0, none⟩), undef, .slice none 0 0, .pointer (some ⟨Bx, 0, none⟩), .func (.func gf) #[] lb, .agg (row 6 (I x)), undef, undef, undef, undef, undef], defers := [] })
    (fun x a' _ X Y row hs hg hr => by obtain ⟨Bx, h1, h2, h3⟩ := hs; exact ⟨Bx, h1, blk_own Bx 6 _ _ () X Y row h2 hg (fun r e => (hr r e).2), h3⟩)
    ?assign ?body ?done ?stop
  case assign =>
    rintro l pre x W K ⟨⟨v, hv, hrow, hnil⟩, hB1⟩ hK
    rw [ap_frame]
    refine wpIn_region_lit ?_
    refine inA_alloc rfl 53 rfl zero6 ?_
    refine inA_store_new (q := I x) rfl 53 _ _ rfl rfl rfl rfl sz6 (fun _ _ => rfl) ?_
    refine wpListIn_nil ?_
    exact hK _ _ ((KeepsOthers.alloc _ _).from _) (hKo _ _ (KeepsOthers.alloc _ _) ((Below.refl _ W).alloc hB1.size _)) ⟨⟨v, hv.alloc _, hrow.alloc _, hnil⟩, hB1.alloc hB1.size _⟩ ⟨W.heap.size, hv.lt, Blk.new _ _ _ _, rfl⟩
  case body =>
    rintro l pre x a' W hl ⟨r, hr⟩ ⟨⟨v, hv, hrow, hnil⟩, hB⟩ ⟨Bx, hBx, bX, rfl⟩ hlt
    have hc := hv.cell
    gi_wp2_with (first
      | (refine inA_load rfl 53 _ rfl bX rfl Try.underlying53 sz6 ?_)
      | (refine inA_build1_6 rfl rfl (g := x) rfl ?_)
      | (gi_at_builtin; refine wpListIn_append_own _ rfl _ _ 22 rfl w.heap.size 53 i0 (.agg (row 6 (I fun _ => 0))) 6 (8 * 6) Try.underlying22 hi hz0 hz1 hz2 rfl (by decide) _ _ _ rfl (hrow.alloc _) ⟨W.heap.size, 0, none⟩ 1 1 (row 6 (I x)).toList rfl (row_len6 x) (row_cells6 x W) (row_one6 x) (by simp only [maxLen]; omega) (by omega) (by have := hB.size; simp; omega) ?_; intro v' w1 hown' hgrow _; obtain ⟨g', cap', rfl⟩ := ownsRow_succ hown'; obtain ⟨hv1, hv2, hr2, hk2, hb2⟩ := hv.appended (by decide) hrow hB.size (Nat.le_refl _) hown' hgrow; have hc1 := hv1.cell; have hf1 := hv1.frozen))
    exact ⟨hk2.from _, hKo _ _ hk2 hb2, ⟨_, hv2, by rw [flat6_snoc, List.length_append]; exact hr2, by simp⟩, hB.trans hb2⟩
  case done =>
    rintro D ys W hD hS ⟨⟨v, hv, hrow, hnil⟩, hB⟩ hK
    have hc := hv.cell
    gi_wp2
    refine ⟨by simp, .inl ⟨_, _, rfl, run_takeDeferred hK, ?_⟩⟩
    exact ⟨_, results_tmp rfl _ _ _, v, ys, rfl, hS, ownsRow_putObj hrow _ hK rfl, hnil, hB.trans (belowK_b (w := w) (Nat.le_refl _) W D _ _ (by omega) hK rfl rfl)⟩
  case stop =>
    rintro D c pre W _ _ h _
    exact h.elim
end Go.Proofs.Ytbfhfadfjgfmaaa

/- slices.Values of a pool, collected: a fresh copy of the pool. -/
set_option linter.unusedVariables false
set_option linter.unusedSimpArgs false
set_option linter.unusedSectionVars false
namespace Go.Proofs.Ytbfhfadfjgfmaaa
open Go.RowKit Go.Shelf
attribute [local go_sem] Oper.semAt_some
theorem inA_loadc {F : Fence} {m : Nat} {P : Program} {ops : Array Oper} {Q : Exit → Act → World → Prop} {a : Act} {w : World} {rest : List Oper} {o : Oper} (hg : o.guard = none) (ty : TypeId) (x : Operand) (ho : o.op = .load ty x) {n : Nat} {p : Addr} {g : Nat → Value} (hx : a.eval x = .pointer (some p)) (hc : ∀ j, j < n → w.cell? (p.add j) = some (g j)) (ha : ∀ w, (isAgg ty).run P w = .ok true w) (hi : (P.info? ty).map (·.size) = some n)
    (h : wpListIn F m P ops Q rest (a.put o.dst (.agg (row n g))) w) : wpListIn F m P ops Q (o :: rest) a w := by
  refine inA_val hg (by simp [Oper.about, ho]) (by rw [ho]; intro c hc; cases hc) ?_ h
  unfold execOp
  simp only [ho, hx, Instr.loadAt, Instr.sureAddr, Sem.run_bind, Sem.run_pure, Result.andThen_ok, run_loadVar_cells hc ha hi]
theorem upto_succ6 {α : Type} (f : Nat → α) (k : Nat) : (List.range (k + 1)).map f = (List.range k).map f ++ [f k] := by simp [List.range_succ]
set_option maxRecDepth 100000 in
set_option maxHeartbeats 1000000 in
theorem values6_stops (m : Nat) (hm : 1 ≤ m) (Bs n₀ : Nat) (a : Addr) (n c : Nat) (x : Nat → Nat → Int) (hn : n ≤ 1000) (w : World) (hBs : Bs < w.heap.size) (hn₀ : n₀ ≤ w.heap.size) (ha : a.block < n₀) (hc : w.cell? ⟨Bs, 0, none⟩ = some (.slice (some a) n c)) (hD : Dice6 w a n x) :
    SeqStopsK Fence.wide m Try.prog 90 #[.pointer (some ⟨Bs, 0, none⟩)] (fun x : Nat → Int => #[.agg (row 6 (I x))]) (Below n₀) (fun ys => ys = (List.range n).map x) (fun _ => True) n w := fun l J Jx W hW hJ hJx hY h0 => by
  have hc' : W.cell? ⟨Bs, 0, none⟩ = some (.slice (some a) n c) := (hW.cell (p := ⟨Bs, 0, none⟩) hBs).trans hc
  have hD' : ∀ k, k < n → ∀ j, j < 6 → W.cell? ((a.add (k * 6)).add j) = some (I (x k) j) := fun k hk j hj => by
    rw [hW.cell (by rw [add_block, add_block]; omega)]
    exact (hD k hk).2 j hj
  refine callsIn_of_wp Try.func90 rfl trivial ?_ rfl
  simp only [Try.ntmps90, List.size_toArray, List.length_cons, List.length_nil, Nat.reduceAdd, Nat.reduceSub, Array.replicate_succ, Array.replicate_zero, List.push_toArray, List.append_toArray, List.nil_append, List.cons_append]
  gi_wp2
  gi_loopw [7] (fun i wr => ∃ k : Nat, k ≤ n ∧ i = .int .i64 k ∧ J ((List.range k).map x) wr ∧ Below n₀ W wr) (fun i _ => n - (RowKit.intOf i).toNat)
  case atStart => exact ⟨0, Nat.zero_le _, rfl, h0, Below.refl _ _⟩
  case round =>
    obtain ⟨k, hk, rfl, hJs, hnx⟩ := hrel
    by_cases hlt : k < n
    · have d0 : decide (k < n) = true := by simp; omega
      have hcell : ∀ j, j < 6 → wr.cell? ((a.add (k * 6)).add j) = some (I (x k) j) := fun j hj => by
        rw [hnx.cell (by rw [add_block, add_block]; exact ha)]
        exact hD' k hlt j hj
      have hJ2 : J ((List.range k).map x) (wr.alloc (.cells (row 6 (I (x k))) 53)) := hJ _ wr _ none hJs (World.grownBy_alloc wr _ none) (by simp)
      obtain ⟨fn, tmps, assign, body, hy, hR⟩ := hY _ (x k) _ hJ2 (by simp; omega)
      (try dsimp only at hy)
      have hs0 := hnx.size
      gi_wp2_with (first
        | (refine inA_loadc rfl 53 _ rfl rfl hcell Try.isAgg53 sz6 ?_)
        | (refine inA_alloc rfl 53 rfl zero6 ?_)
        | (refine inA_store_new (q := I (x k)) rfl 53 _ _ rfl rfl rfl rfl sz6 (fun _ _ => rfl) ?_)
        | (refine inA_load rfl 53 _ rfl (Blk.new _ _ _ _) rfl Try.underlying53 sz6 ?_))
      refine hR.mono ?_
      rintro e W3 (⟨rfl, hJ3, hk3⟩ | ⟨rfl, hJx3⟩)
      · gi_wp2
        go_roundw
        case rel => exact ⟨k + 1, by omega, by go_num, by rw [upto_succ6]; exact hJ3, (hnx.alloc (by have := hW.size; omega) _).trans hk3⟩
        case measure => simp [RowKit.intOf]; omega
      · gi_wp2
        refine bodyPost_ret (results_none rfl _ _ _) rfl ?_
        exact ⟨⟨_, rfl⟩, .inr ⟨_, trivial, hJx3⟩⟩
    · obtain rfl : k = n := by omega
      have d0 : decide (k < k) = false := by simp
      gi_wp2
      go_end0
      exact ⟨⟨_, rfl⟩, .inl ⟨_, rfl, hJs⟩⟩
theorem collect6_any (Bs : Nat) (a : Addr) (n c : Nat) (x : Nat → Nat → Int) (hn : n ≤ 1000) (w : World) (hBs : Bs < w.heap.size) (ha : a.block < w.heap.size) (hc : w.cell? ⟨Bs, 0, none⟩ = some (.slice (some a) n c)) (hD : Dice6 w a n x) :
    Calls Try.prog 88 #[.func (.func 90) #[] #[.pointer (some ⟨Bs, 0, none⟩)]] w fun e w' => ∃ v : Value, e = .returned v ∧ w'.ownsRow w.heap.size 53 6 v n (flat6 ((List.range n).map x)) ∧ Below w.heap.size w w' := by
  have HS := Lib.hid (values6_stops 5 (by omega) Bs w.heap.size a n c x hn w hBs (Nat.le_refl _) ha hc hD)
  have eg : ∀ args w, (callFunc 90 args).run Try.prog w = .ok (.enter 90 args) w := enters_of Try.func90 (by kernel_rfl) rfl
  have EG := Lib.hid eg
  clear hc hD eg
  go_enter Try.func88, Try.ntmps88
  go_wp2_with fail
  go_at_call 114
  refine ((callsIn_wide (n := 6)).1 (appendSeq6_in 6 (by omega) EG.out (by omega) w HS.out belowK_t (belowK_b (Nat.le_refl _)) (fun A B _ hb => hb))).mono ?_
  rintro e w1 ⟨v, xs, rfl, rfl, ho, -, hb⟩
  have HO := Lib.hid ho; have HB := Lib.hid hb
  clear ho hb
  go_wp2
  go_ret
  exact ⟨v, rfl, by have := HO.out; simpa using this, HB.out⟩
theorem values6_any (o : Option Addr) (n c : Nat) (w : World) : Calls Try.prog 44 #[.slice o n c] w fun e w' => e = .returned (.func (.func 90) #[] #[.pointer (some ⟨w.heap.size, 0, none⟩)]) ∧ w' = w.alloc (.cells #[.slice o n c] 22) := by
  go_enter Try.func44, Try.ntmps44
  go_wp2
  go_ret
  exact ⟨rfl, rfl⟩
end Go.Proofs.Ytbfhfadfjgfmaaa

/- slices.SortFunc at [][6]int by compareDice. Written by gen_srta.py. -/
set_option linter.unusedVariables false
set_option linter.unusedSimpArgs false
set_option linter.unusedSectionVars false
namespace Go.Proofs.Ytbfhfadfjgfmaaa
open Go.RowKit Go.Sort Go.Shelf
theorem cmpExact6 (a b : Nat → Int) (w : World) : Calls Try.prog 45 #[.agg (row 6 (I a)), .agg (row 6 (I b))] w fun e w' => e = .returned (.int .i64 (lexI a b 6 0)) ∧ ∃ q os', w' = grow (w.drewN q) os' := by
  go_enter Try.func45, Try.ntmps45
  go_wp2
  go_quiet ((go_at_call 76; exact quiet_eq (sliceCompare_any _ _ 6 _ _ a b (by omega) _ (((Blk.new _ _ 53 _).alloc _).drewN _) ((Blk.newS (by simp)).drewN _))))
  go_wp2
  go_ret
  exact ⟨rfl, _, #[.cells (row 6 (I a)) 53, .cells (row 6 (I b)) 53], by rw [alloc_eq_grow, alloc_eq_grow, grow_grow]; rfl⟩
theorem cmpLays6 (blk off size : Nat) (w : World) : CmpLays Try.prog 45 #[] (encA 6) 6 (upA 6) blk off size w := fun _ _ _ _ x y => cmpExact6 x.1 y.1 _
theorem sortArr6_any (g cap : Nat) (d : Array (AK 6)) (hsz : d.size ≤ 100000) (w : World) (hH : HoldsK (encA 6) 6 w g 0 d) (hg : g < w.heap.size) :
    Calls Try.prog 89 #[.slice (some ⟨g, 0, none⟩) d.size cap, .func (.func 45) #[] #[]] w fun e w' => e = .returned (.tuple #[]) ∧ HoldsK (encA 6) 6 w' g 0 (d.toList.mergeSort fun x y => !(ltOf (upA 6)) y x).toArray ∧ w.grownBy w' (some g) ∧ ∀ cur T, w.heap[g]? = some (.cells cur T (0, 0)) → w'.heap[g]? = some (.cells (putCells id 0 (flatK (encA 6) 6 (d.toList.mergeSort fun x y => !(ltOf (upA 6)) y x).toArray) cur) T (0, 0)) := by
  have eg : ∀ args w, (callFunc 45 args).run Try.prog w = .ok (.enter 45 args) w := enters_of Try.func45 (by kernel_rfl) rfl
  refine (AnyQ.slices_SortFunc_total Try.srt6 6 Try.isAgg53 Try.sizeOf53 (encA 6) (encA_len 6) (encA_one 6) (upA 6) (up_swo 6) 45 #[] g 0 cap d w eg (cmpLays6 _ _ _ _) hH hg (by omega) (up_total 6)).mono ?_
  rintro e w' ⟨rfl, n, os, rfl⟩
  exact ⟨rfl, holdsK_sortWorldK_c (encA 6) 6 w g 0 d _ n os hH hg (by simp), grown_sorted _, fun cur T h => heap_sortedA _ h⟩
end Go.Proofs.Ytbfhfadfjgfmaaa

/- slices.SortedFunc of a pool's dice by compareDice. -/
set_option linter.unusedVariables false
set_option linter.unusedSimpArgs false
set_option linter.unusedSectionVars false
namespace Go.Proofs.Ytbfhfadfjgfmaaa
open Go.RowKit Go.Sort Go.Shelf
theorem flat6_len (xs : List (Nat → Int)) : (flat6 xs).length = xs.length * 6 := by
  induction xs with
  | nil => rfl
  | cons x r ih => rw [show flat6 (x :: r) = (row 6 (I x)).toList ++ flat6 r by simp [flat6], List.length_append, ih]; simp [row]; omega
theorem flat6_at (x : Nat → Nat → Int) : ∀ n j, j < n * 6 → (flat6 ((List.range n).map x))[j]? = some (.int .i64 (x (j / 6) (j % 6)))
  | 0, _, h => by omega
  | n + 1, j, h => by
    rw [upto_succ6, flat6_snoc]
    have hl : (flat6 ((List.range n).map x)).length = n * 6 := by rw [flat6_len]; simp
    by_cases c : j < n * 6
    · rw [List.getElem?_append_left (by omega)]
      exact flat6_at x n j c
    · rw [List.getElem?_append_right (by omega), hl]
      have e1 : j / 6 = n := by omega
      have e2 : j % 6 = j - n * 6 := by omega
      rw [Array.getElem?_toList, row_get (by omega), e1, e2]
      rfl
/-- A pool as a list of dice. -/
def poolL (n : Nat) (x : Nat → Nat → Int) : List (AK 6) := (List.range n).map fun i => trimA 6 (x i)
def flatP (y : Nat → Nat → Int) : Nat → Int := fun q => y (q / 6) (q % 6)
theorem sorted6_any (Bs : Nat) (a : Addr) (n c : Nat) (x y : Nat → Nat → Int) (h1 : 1 ≤ n) (hn : n ≤ 1000) (hy : (poolL n x).mergeSort (fun p q => !(ltOf (upA 6)) q p) = poolL n y) (w : World) (hBs : Bs < w.heap.size) (ha : a.block < w.heap.size) (hc : w.cell? ⟨Bs, 0, none⟩ = some (.slice (some a) n c)) (hD : Dice6 w a n x) :
    Calls Try.prog 43 #[.func (.func 90) #[] #[.pointer (some ⟨Bs, 0, none⟩)], .func (.func 45) #[] #[]] w fun e w' => ∃ (o : Option Addr) (cp : Nat), e = .returned (.slice o n cp) ∧ Arrs w' 53 6 w.heap.size o n cp (flatP y) ∧ Below w.heap.size w w' := by
  have HD := Lib.hid hD; have HC := Lib.hid hc; have HY := Lib.hid hy
  clear hD hc hy
  go_enter Try.func43, Try.ntmps43
  go_wp2_with fail
  go_at_call 88
  refine (collect6_any Bs a n c x hn _ hBs ha HC.out HD.out).mono ?_
  rintro e w1 ⟨v, rfl, ho, hb⟩
  obtain ⟨g, cap, rfl, hg⟩ : ∃ g cap, v = .slice (some ⟨g, 0, none⟩) n cap ∧ w.heap.size ≤ g := by
    rcases ho.2 with ⟨_, h0⟩ | ⟨g, cap, cur, hv, hb, _⟩
    · omega
    · exact ⟨g, cap, hv, hb⟩
  obtain ⟨g', F, he, -, -, hnc, hcm, hB, hx, hgl⟩ := own_form ho (by omega)
  injection he with he
  injection he with he _
  subst he
  have hF : ∀ j, j < n * 6 → F j = .int .i64 (x (j / 6) (j % 6)) := fun j hj => by
    have := hx j hj
    rw [flat6_at x n j hj] at this
    exact (Option.some.inj this).symm
  have hds : (poolL n x).toArray.size = n := by simp [poolL]
  have HH := Lib.hid (show HoldsK (encA 6) 6 w1 g 0 (poolL n x).toArray from fun j hj => by
    rw [size_flatK, hds] at hj
    rw [Nat.zero_add, hB.cell (by omega), hF j hj]
    exact ⟨congrArg some (flatK_at (by omega) n x hj).symm, hB.free _⟩)
  have HB1 := Lib.hid hB; have HB := Lib.hid hb; have HG := Lib.hid hg; have HL := Lib.hid hgl; have NC := Lib.hid hnc; have CM := Lib.hid hcm
  clear hB hb hg ho hx hF hgl hnc hcm
  go_wp2_with fail
  go_at_call 89
  have hS := sortArr6_any g cap (poolL n x).toArray (by rw [hds]; omega) w1 HH.out HL.out
  rw [hds] at hS
  refine hS.mono ?_
  rintro e w2 ⟨rfl, -, hG2, hput⟩
  have hput := hput _ _ HB1.out
  rw [show (poolL n x).toArray.toList = poolL n x from rfl, HY.out, show poolL n y = (List.range n).map fun i => trimA 6 (y i) from rfl, put_row (by omega) n _ F y (by have := NC.out; omega)] at hput
  have HP := Lib.hid (show Blk w2 g (cap * 6) 53 _ from hput)
  have HG2 := Lib.hid hG2
  clear hput hG2 hS
  go_wp2
  go_ret
  exact ⟨_, cap, rfl, Arrs.ofBlk HG.out NC.out CM.out HP.out (fun i hi => if_pos hi), below_grown HB.out HG2.out (fun k e => by cases e; exact HG.out) HB.out.size⟩
end Go.Proofs.Ytbfhfadfjgfmaaa

/- Dice in order: what insertion from the left does; the library's sort answers the same. Written by gen_plx.py. -/
set_option linter.unusedVariables false
set_option linter.unusedSimpArgs false
set_option linter.unusedSectionVars false
namespace Go.Proofs.Ytbfhfadfjgfmaaa
open Go.RowKit Go.Sort Go.Shelf
/-- A die comes before another one. -/
def lessD (a b : Nat → Int) : Bool := decide (lexI a b 6 0 < 0)
theorem less_ntrans {a b c : Nat → Int} (h1 : lessD a b = false) (h2 : lessD b c = false) : lessD a c = false := decide_eq_false (lex_ntrans _ _ _ _ _ (of_decide_eq_false h1) (of_decide_eq_false h2))
theorem less_asym {a b : Nat → Int} (h : lessD a b = true) : lessD b a = false := decide_eq_false (fun q => lex_irr a 6 0 (lex_trans a b a _ _ (of_decide_eq_true h) q))
/-- f with v put at place j, what stood from j on one place further, up to place i. -/
def insX (f : Nat → Nat → Int) (i j : Nat) (v : Nat → Int) : Nat → Nat → Int := fun p => if p < j then f p else if p = j then v else if p ≤ i then f (p - 1) else f p
/-- The place, at most j, to which v goes: behind the last that is not less. -/
def posX (f : Nat → Nat → Int) (v : Nat → Int) : Nat → Nat
  | 0 => 0
  | j + 1 => if lessD v (f j) then posX f v j else j + 1
def plX (r : Nat → Nat → Int) : Nat → Nat → Nat → Int
  | 0 => fun _ _ => 0
  | i + 1 => insX (plX r i) i (posX (plX r i) (r i) i) (r i)
theorem posX_le (f : Nat → Nat → Int) (v : Nat → Int) : ∀ j, posX f v j ≤ j
  | 0 => Nat.le_refl _
  | j + 1 => by
    have := posX_le f v j
    simp only [posX]
    split <;> omega
theorem posX_lt (f : Nat → Nat → Int) (v : Nat → Int) : ∀ j q, posX f v j ≤ q → q < j → lessD v (f q) = true
  | 0, _, _, h => by omega
  | j + 1, q, h1, h2 => by
    simp only [posX] at h1
    split at h1
    · rename_i h
      by_cases e : q = j
      · rw [e]; exact h
      · exact posX_lt f v j q h1 (by omega)
    · omega
theorem posX_ge (f : Nat → Nat → Int) (v : Nat → Int) : ∀ j, 0 < posX f v j → lessD v (f (posX f v j - 1)) = false
  | 0, h => by simp [posX] at h
  | j + 1, h => by
    simp only [posX] at h ⊢
    split
    · rename_i c
      rw [if_pos c] at h
      exact posX_ge f v j h
    · rename_i c
      simp only [Nat.add_sub_cancel]
      simpa using c
def UpX (f : Nat → Nat → Int) (n : Nat) : Prop := ∀ q p, q < p → p < n → lessD (f p) (f q) = false
theorem plX_up (r : Nat → Nat → Int) : ∀ n, UpX (plX r n) n
  | 0 => fun q p _ hp => by omega
  | n + 1 => by
    have ih := plX_up r n
    have hle := posX_le (plX r n) (r n) n
    have hlt := posX_lt (plX r n) (r n) n
    have hge := posX_ge (plX r n) (r n) n
    simp only [plX]
    obtain ⟨s, hs⟩ : ∃ s, s = posX (plX r n) (r n) n := ⟨_, rfl⟩
    rw [← hs] at hle hlt hge ⊢
    have before : ∀ q, q < s → lessD (r n) (plX r n q) = false := fun q hq => by
      have h1 := hge (by omega)
      by_cases e : q = s - 1
      · rw [e]; exact h1
      · exact less_ntrans h1 (ih q (s - 1) (by omega) (by omega))
    intro q p hq hp
    unfold insX
    by_cases c1 : p < s
    · rw [if_pos c1, if_pos (show q < s by omega)]
      exact ih q p hq (by omega)
    · rw [if_neg c1]
      by_cases c2 : p = s
      · rw [if_pos c2, if_pos (show q < s by omega)]
        exact before q (by omega)
      · rw [if_neg c2, if_pos (show p ≤ n by omega)]
        by_cases c3 : q < s
        · rw [if_pos c3]
          exact ih q (p - 1) (by omega) (by omega)
        · rw [if_neg c3]
          by_cases c4 : q = s
          · rw [if_pos c4]
            exact less_asym (hlt (p - 1) (by omega) (by omega))
          · rw [if_neg c4, if_pos (show q ≤ n by omega)]
            exact ih (q - 1) (p - 1) (by omega) (by omega)
theorem poolL_len (n : Nat) (x : Nat → Nat → Int) : (poolL n x).length = n := by simp [poolL]
theorem poolL_at (n : Nat) (x : Nat → Nat → Int) {i : Nat} (h : i < n) : (poolL n x)[i]? = some (trimA 6 (x i)) := by simp [poolL, h]
theorem poolL_ins (x : Nat → Nat → Int) (n j : Nat) (v : Nat → Int) (hj : j ≤ n) : poolL (n + 1) (insX x n j v) = (poolL n x).take j ++ trimA 6 v :: (poolL n x).drop j := by
  apply List.ext_getElem?
  intro p
  have hl : ((poolL n x).take j).length = j := by rw [List.length_take, poolL_len]; omega
  by_cases h1 : p < j
  · rw [List.getElem?_append_left (by omega), List.getElem?_take_of_lt h1, poolL_at _ _ (by omega), poolL_at _ _ (by omega)]
    simp only [insX, if_pos h1]
  · rw [List.getElem?_append_right (by omega), hl]
    by_cases h2 : p = j
    · subst h2
      rw [Nat.sub_self, poolL_at _ _ (by omega)]
      simp [insX]
    · obtain ⟨q, rfl⟩ : ∃ q, p = q + 1 := ⟨p - 1, by omega⟩
      rw [show q + 1 - j = (q - j) + 1 by omega, List.getElem?_cons_succ, List.getElem?_drop, show j + (q - j) = q by omega]
      by_cases h3 : q < n
      · rw [poolL_at _ _ (by omega), poolL_at _ _ h3]
        simp only [insX]
        rw [if_neg (by omega), if_neg h2, if_pos (by omega)]
        rfl
      · rw [List.getElem?_eq_none (by rw [poolL_len]; omega), List.getElem?_eq_none (by rw [poolL_len]; omega)]
theorem plX_perm (x : Nat → Nat → Int) : ∀ n, (poolL n (plX x n)).Perm (poolL n x)
  | 0 => List.Perm.refl _
  | n + 1 => by
    have ih := plX_perm x n
    simp only [plX]
    rw [poolL_ins _ _ _ _ (posX_le _ _ _)]
    have e : poolL (n + 1) x = poolL n x ++ [trimA 6 (x n)] := by simp [poolL, List.range_succ]
    rw [e]
    refine List.Perm.trans List.perm_middle ?_
    rw [List.take_append_drop]
    exact (List.Perm.cons _ ih).trans (List.perm_append_singleton _ _).symm
theorem lessD_trim (a b : Nat → Int) : ltOf (upA 6) (trimA 6 a) (trimA 6 b) = lessD a b := by
  unfold ltOf upA lessD
  congr 2
theorem pool_sorted (n : Nat) (x : Nat → Nat → Int) : (poolL n x).mergeSort (fun p q => !(ltOf (upA 6)) q p) = poolL n (plX x n) := by
  refine sorted_is (up_swo 6) (up_total 6) (plX_perm x n) ?_
  rw [poolL, List.pairwise_map]
  rw [List.pairwise_iff_getElem]
  intro q p hq hp hlt
  simp only [List.getElem_range]
  rw [lessD_trim]
  simp only [List.length_range] at hp
  exact plX_up x n q p hlt hp
end Go.Proofs.Ytbfhfadfjgfmaaa

/- The patterns of a pool, the best one first: what the reference's insertion comes to is what the sorted keys come to. In plain Lean. -/
set_option linter.unusedVariables false
set_option linter.unusedSimpArgs false
set_option linter.unusedSectionVars false
namespace Go.Proofs.Ytbfhfadfjgfmaaa
open Go.RowKit Go.Sort Go.Shelf Go.Maps
def lessP (a b : Nat → Int) : Bool := decide (lexI a b 4 0 < 0)
theorem lessP_trans {a b c : Nat → Int} (h1 : lessP a b = true) (h2 : lessP b c = true) : lessP a c = true := decide_eq_true (lex_trans _ _ _ _ _ (of_decide_eq_true h1) (of_decide_eq_true h2))
theorem lessP_asym {a b : Nat → Int} (h : lessP a b = true) : lessP b a = false := decide_eq_false (fun q => lex_irr a 4 0 (lex_trans a b a _ _ (of_decide_eq_true h) q))
theorem lessP_total {a b : Nat → Int} (h1 : lessP a b = false) (h2 : same4 b a = false) : lessP b a = true := by
  cases e : lessP b a
  · have := (same4_iff b a).2 (fun p hp => lex_total b a 4 0 (of_decide_eq_false e) (of_decide_eq_false h1) p (by omega) (by omega))
    rw [h2] at this; cases this
  · rfl
/-- The first place, K - d or later, at which v does not come before what stands there. -/
def upP (y : Nat → Nat → Int) (v : Nat → Int) (K : Nat) : Nat → Nat
  | 0 => K
  | d + 1 => if lessP v (y (K - (d + 1))) then upP y v K d else K - (d + 1)
theorem upP_le (y : Nat → Nat → Int) (v : Nat → Int) (K : Nat) : ∀ d, upP y v K d ≤ K
  | 0 => Nat.le_refl _
  | d + 1 => by have := upP_le y v K d; simp only [upP]; split <;> omega
theorem upP_before (y : Nat → Nat → Int) (v : Nat → Int) (K : Nat) : ∀ d q, d ≤ K → K - d ≤ q → q < upP y v K d → lessP v (y q) = true
  | 0, q, _, h1, h2 => by simp only [upP] at h2; omega
  | d + 1, q, hd, h1, h2 => by
    simp only [upP] at h2
    split at h2
    · rename_i h
      by_cases e : q = K - (d + 1)
      · rw [e]; exact h
      · exact upP_before y v K d q (by omega) (by omega) h2
    · omega
theorem upP_at (y : Nat → Nat → Int) (v : Nat → Int) (K : Nat) : ∀ d, upP y v K d < K → lessP v (y (upP y v K d)) = false
  | 0, h => by simp only [upP] at h; omega
  | d + 1, h => by
    simp only [upP] at h ⊢
    split
    · rename_i c
      rw [if_pos c] at h
      exact upP_at y v K d h
    · rename_i c
      simpa using c
def placeP (K : Nat) (y : Nat → Nat → Int) (v : Nat → Int) : Nat := upP y v K K
/-- Is the pattern there already? -/
def thereP (K : Nat) (y : Nat → Nat → Int) (v : Nat → Int) : Bool := decide (placeP K y v < K) && same4 (y (placeP K y v)) v
def nextK (K : Nat) (y : Nat → Nat → Int) (v : Nat → Int) : Nat := if thereP K y v then K else K + 1
def nextY (K : Nat) (y : Nat → Nat → Int) (v : Nat → Int) : Nat → Nat → Int := if thereP K y v then y else insX y K (placeP K y v) v
def stP (n : Nat) (x : Nat → Nat → Int) : Nat → Nat × (Nat → Nat → Int)
  | 0 => (0, fun _ _ => 0)
  | M + 1 => (nextK (stP n x M).1 (stP n x M).2 (patN n x M), nextY (stP n x M).1 (stP n x M).2 (patN n x M))
def DownP (K : Nat) (y : Nat → Nat → Int) : Prop := ∀ q p, q < p → p < K → lessP (y p) (y q) = true
theorem next_down {K : Nat} {y : Nat → Nat → Int} (h : DownP K y) (v : Nat → Int) : DownP (nextK K y v) (nextY K y v) := by
  unfold nextK nextY
  cases ht : thereP K y v
  · simp only [Bool.false_eq_true, if_false]
    have hle : placeP K y v ≤ K := upP_le _ _ _ _
    have hbef : ∀ q, q < placeP K y v → lessP v (y q) = true := fun q hq => upP_before y v K K q (Nat.le_refl _) (by omega) hq
    have hat : placeP K y v < K → lessP v (y (placeP K y v)) = false := upP_at y v K K
    have hns : placeP K y v < K → same4 (y (placeP K y v)) v = false := fun hl => by
      unfold thereP at ht
      rw [decide_eq_true hl, Bool.true_and] at ht
      exact ht
    obtain ⟨s, hs⟩ : ∃ s, s = placeP K y v := ⟨_, rfl⟩
    rw [← hs] at hle hbef hat hns ⊢
    have haft : ∀ p, s ≤ p → p < K → lessP (y p) v = true := fun p h1 h2 => by
      have h3 := lessP_total (hat (by omega)) (hns (by omega))
      by_cases e : p = s
      · rw [e]; exact h3
      · exact lessP_trans (h s p (by omega) h2) h3
    intro q p hq hp
    unfold insX
    by_cases c1 : p < s
    · rw [if_pos c1, if_pos (show q < s by omega)]
      exact h q p hq (by omega)
    · rw [if_neg c1]
      by_cases c2 : p = s
      · rw [if_pos c2, if_pos (show q < s by omega)]
        exact hbef q (by omega)
      · rw [if_neg c2, if_pos (show p ≤ K by omega)]
        by_cases c3 : q < s
        · rw [if_pos c3]
          exact h q (p - 1) (by omega) (by omega)
        · rw [if_neg c3]
          by_cases c4 : q = s
          · rw [if_pos c4]
            exact haft (p - 1) (by omega) (by omega)
          · rw [if_neg c4, if_pos (show q ≤ K by omega)]
            exact h (q - 1) (p - 1) (by omega) (by omega)
  · simp only [if_true]
    exact h
theorem next_mem (K : Nat) (y : Nat → Nat → Int) (v f : Nat → Int) : (∃ p, p < nextK K y v ∧ same4 (nextY K y v p) f = true) ↔ (∃ p, p < K ∧ same4 (y p) f = true) ∨ same4 v f = true := by
  unfold nextK nextY
  have hle : placeP K y v ≤ K := upP_le _ _ _ _
  cases ht : thereP K y v
  · simp only [Bool.false_eq_true, if_false]
    obtain ⟨s, hs⟩ : ∃ s, s = placeP K y v := ⟨_, rfl⟩
    rw [← hs] at hle ⊢
    constructor
    · rintro ⟨p, hp, h⟩
      unfold insX at h
      by_cases c1 : p < s
      · rw [if_pos c1] at h
        exact .inl ⟨p, by omega, h⟩
      · rw [if_neg c1] at h
        by_cases c2 : p = s
        · rw [if_pos c2] at h; exact .inr h
        · rw [if_neg c2, if_pos (by omega)] at h
          exact .inl ⟨p - 1, by omega, h⟩
    · rintro (⟨p, hp, h⟩ | h)
      · by_cases c1 : p < s
        · exact ⟨p, by omega, by unfold insX; rw [if_pos c1]; exact h⟩
        · exact ⟨p + 1, by omega, by unfold insX; rw [if_neg (by omega), if_neg (by omega), if_pos (by omega)]; exact h⟩
      · exact ⟨s, by omega, by unfold insX; rw [if_neg (by omega), if_pos rfl]; exact h⟩
  · simp only [if_true]
    unfold thereP at ht
    simp only [Bool.and_eq_true, decide_eq_true_eq] at ht
    constructor
    · exact .inl
    · rintro (h | h)
      · exact h
      · exact ⟨_, ht.1, (same4_left h (y _)) ▸ ht.2⟩
theorem stP_down (n : Nat) (x : Nat → Nat → Int) : ∀ M, DownP (stP n x M).1 (stP n x M).2
  | 0 => fun q p _ hp => by simp only [stP] at hp; omega
  | M + 1 => next_down (stP_down n x M) _
theorem stP_mem (n : Nat) (x : Nat → Nat → Int) (f : Nat → Int) : ∀ M, (∃ p, p < (stP n x M).1 ∧ same4 ((stP n x M).2 p) f = true) ↔ ∃ m, m < M ∧ same4 (patN n x m) f = true
  | 0 => by simp [stP]
  | M + 1 => by
    refine (next_mem _ _ _ _).trans ?_
    rw [stP_mem n x f M]
    constructor
    · rintro (⟨m, hm, h⟩ | h)
      · exact ⟨m, by omega, h⟩
      · exact ⟨M, by omega, h⟩
    · rintro ⟨m, hm, h⟩
      by_cases e : m = M
      · subst e; exact .inr h
      · exact .inl ⟨m, by omega, h⟩
theorem stP_le (n : Nat) (x : Nat → Nat → Int) : ∀ M, (stP n x M).1 ≤ M
  | 0 => Nat.le_refl _
  | M + 1 => by have := stP_le n x M; simp only [stP, nextK]; split <;> omega
theorem cntP_iff (n : Nat) (x : Nat → Nat → Int) (f : Nat → Int) : ∀ M, 0 < cntP n x f M ↔ ∃ m, m < M ∧ same4 (patN n x m) f = true
  | 0 => by simp [cntP]
  | M + 1 => by
    have ih := cntP_iff n x f M
    simp only [cntP]
    constructor
    · intro h
      cases e : same4 (patN n x M) f
      · rw [e] at h
        obtain ⟨m, h1, h2⟩ := ih.1 (by simpa using h)
        exact ⟨m, by omega, h2⟩
      · exact ⟨M, by omega, e⟩
    · rintro ⟨m, hm, h⟩
      by_cases e : m = M
      · subst e; rw [h]; simp
      · have := ih.2 ⟨m, by omega, h⟩
        omega
theorem same4_refl (f : Nat → Int) : same4 f f = true := (same4_iff _ _).2 (fun _ _ => rfl)
theorem same4_symm {f g : Nat → Int} (h : same4 f g = true) : same4 g f = true := (same4_iff _ _).2 (fun p hp => ((same4_iff _ _).1 h p hp).symm)
theorem trim_same {f g : Nat → Int} : trimA 4 f = trimA 4 g ↔ same4 f g = true := by
  rw [same4_iff]
  constructor
  · intro h p hp
    rw [← trim_at 4 f hp, h, trim_at 4 g hp]
  · intro h
    exact ak_ext fun p hp => by rw [trim_at 4 f hp, trim_at 4 g hp]; exact h p hp
theorem keys_sort {n : Nat} {x : Nat → Nat → Int} (hn : n ≤ 4) {M : Nat} {D : DataW Unit} (h : PatOf n x M D) : SortsTo D (stP n x M).1 (stP n x M).2 := by
  rintro xs ⟨hw, hnd, hk⟩
  have hd := stP_down n x M
  have hmem : ∀ a : AK 4, a ∈ xs.map (trimA 4) ↔ a ∈ patsL (stP n x M).1 (stP n x M).2 := fun a => by
    simp only [List.mem_map, patsL, List.mem_range]
    constructor
    · rintro ⟨f, hf, rfl⟩
      have h1 := (hk (kb4 f)).1 (List.mem_map.2 ⟨f, hf, rfl⟩)
      rw [show Lit.string (kb4 f) = kl4 f from rfl, h.2.2 f (hw f hf), decide_eq_true_eq, cntP_iff, ← stP_mem] at h1
      obtain ⟨p, hp, hs⟩ := h1
      exact ⟨p, hp, trim_same.2 hs⟩
    · rintro ⟨p, hp, rfl⟩
      obtain ⟨m, hm, hs⟩ := (stP_mem n x ((stP n x M).2 p) M).1 ⟨p, hp, same4_refl _⟩
      have h1 : has D (kl4 (patN n x m)) = true := by
        rw [h.2.2 _ (patN_wf n x hn m), decide_eq_true_eq, cntP_iff]
        exact ⟨m, hm, same4_refl _⟩
      obtain ⟨f, hf, he⟩ := List.mem_map.1 ((hk (kb4 (patN n x m))).2 h1)
      have h2 := (same4_iff _ _).2 (key4_inj (hw f hf) (patN_wf n x hn m) (show kl4 f = kl4 (patN n x m) from congrArg Lit.string he))
      exact ⟨f, hf, trim_same.2 ((same4_left hs f) ▸ h2)⟩
  have nd1 : (xs.map (trimA 4)).Nodup := by
    refine List.pairwise_map.2 ((List.pairwise_map.1 hnd).imp (fun {f g} hne e => hne ?_))
    have := kl4_same (trim_same.1 e)
    exact Lit.string.inj this
  have pw : (patsL (stP n x M).1 (stP n x M).2).Pairwise (fun a b => ltOf (downA 4) b a = false ∧ a ≠ b) := by
    rw [patsL, List.pairwise_map, List.pairwise_iff_getElem]
    intro q p hq hp hlt
    simp only [List.getElem_range]
    simp only [List.length_range] at hp
    have h1 := hd q p hlt hp
    refine ⟨?_, fun e => ?_⟩
    · have h2 := lessP_asym h1
      unfold ltOf downA
      unfold lessP at h2
      exact h2
    · have h3 := lexI_same ((stP n x M).2 p) (trim_same.1 e)
      have h4 := of_decide_eq_true h1
      rw [h3] at h4
      exact lex_irr _ _ _ h4
  have nd2 : (patsL (stP n x M).1 (stP n x M).2).Nodup := pw.imp (fun h => h.2)
  have hp : (patsL (stP n x M).1 (stP n x M).2).Perm (xs.map (trimA 4)) := (List.perm_ext_iff_of_nodup nd2 nd1).2 (fun a => (hmem a).symm)
  refine ⟨?_, sorted_is (down_swo 4) (down_total 4) hp (pw.imp (fun h => h.1))⟩
  have := hp.length_eq
  simpa [patsL] using this.symm
end Go.Proofs.Ytbfhfadfjgfmaaa

/- The program's PatternsOf. -/
set_option linter.unusedVariables false
set_option linter.unusedSimpArgs false
set_option linter.unusedSectionVars false
namespace Go.Proofs.Ytbfhfadfjgfmaaa
open Go.RowKit Go.Maps
noncomputable def patK (n : Nat) (x : Nat → Nat → Int) : Nat := if poolB n x then (stP n x (sixN n)).1 else 0
noncomputable def patY (n : Nat) (x : Nat → Nat → Int) : Nat → Int := flatQ (stP n x (sixN n)).2
theorem patK_le (n : Nat) (x : Nat → Nat → Int) : patK n x ≤ 1000000 := by
  unfold patK
  cases g : poolB n x
  · exact Nat.zero_le _
  · have := pool_le g
    have h1 := stP_le n x (sixN n)
    have h2 := sixN_small this.2
    simp only [if_true]
    omega
theorem iPatternsOf_any (o : Option Addr) (n c : Nat) (x : Nat → Nat → Int) (hn : n ≤ 1048576) (w : World) (h : PoolAt w o n x) : Calls Try.prog 24 #[poolV o n c] w fun e w' => ∃ A cp, e = .returned (.tuple #[.slice A (patK n x) cp, .bool (poolB n x)]) ∧ Arrs w' 29 4 w.heap.size A (patK n x) cp (patY n x) ∧ Below w.heap.size w w' := by
  have H := Lib.hid h; clear h
  cases g1 : poolB n x
  · have HV := Lib.hid (show patK n x = 0 by unfold patK; rw [g1]; rfl)
    rw [HV.out]
    go_enter Try.func24, Try.ntmps24
    go_wp2_with fail
    go_at_call 42
    refine (isPool_any o n c x hn _ H.out).mono ?_
    rintro e w1 ⟨rfl, hb1⟩
    have HB1 := Lib.hid hb1; clear hb1
    rw [g1]
    go_wp2
    go_ret2
    exact ⟨none, 0, rfl, Arrs.nil _ _ _ _ _, HB1.out⟩
  · have HV := Lib.hid (show patK n x = (stP n x (sixN n)).1 by unfold patK; rw [g1]; rfl)
    obtain ⟨n1, n4⟩ := pool_le g1
    have s3 := sixN_small n4
    have s1 := (sixN_le n (by omega)).1
    have hK := stP_le n x (sixN n)
    have hK1 : 1 ≤ (stP n x (sixN n)).1 := by
      obtain ⟨p, hp, _⟩ := (stP_mem n x (patN n x 0) (sixN n)).2 ⟨0, by omega, same4_refl _⟩
      omega
    have G1 := Lib.hid g1
    rw [HV.out]
    go_enter Try.func24, Try.ntmps24
    go_wp2_with fail
    go_at_call 42
    refine (isPool_any o n c x hn _ H.out).mono ?_
    rintro e w1 ⟨rfl, hb1⟩
    have HB1 := Lib.hid hb1; clear hb1
    have P1 := Lib.hid (H.out.below HB1.out)
    rw [g1]
    clear g1
    go_wp2_with fail
    go_at_call 56
    refine (patterns_any o n c x G1.out _ P1.out).mono ?_
    rintro e w2 ⟨rfl, ⟨D, hM, hD⟩, hb⟩
    obtain ⟨mb, hmb⟩ : ∃ mb, mb = w1.heap.size := ⟨_, rfl⟩
    rw [← hmb] at hM ⊢
    have M2 := Lib.hid hM
    have HB2 := Lib.hid (HB1.out.trans (hb.mono HB1.out.size))
    have SZ := Lib.hid (show Maps.size D ≤ 100000 by have := hM.size_le; omega)
    have KS := Lib.hid (keys_sort n4 hD)
    clear hM hb hmb hD
    go_wp2_with fail
    go_at_call 59
    refine (keys4_any (some mb) _).mono ?_
    rintro e w3 ⟨rfl, rfl⟩
    generalize hW : w2.alloc (.cells #[.map (some mb)] 67) = W3
    have C3 := Lib.hid (show W3.cell? ⟨w2.heap.size, 0, none⟩ = some (.map (some mb)) from hW ▸ (Blk.newAt (n := 1) (f := fun _ => .map (some mb)) rfl rfl).cell (by omega))
    have L3 := Lib.hid (show w2.heap.size < W3.heap.size by rw [← hW]; simp)
    have M3 := Lib.hid (show W3.ownsMap Try.prog 29 (plainElem Try.prog 3) mb (sixN n) D from hW ▸ M2.out.alloc _)
    have HB3 := Lib.hid (show Below w.heap.size w W3 from hW ▸ HB2.out.alloc HB2.out.size _)
    clear hW
    go_wp2_with fail
    go_at_call 58
    refine (sorted4_any w2.heap.size mb (sixN n) _ (stP n x (sixN n)).2 D SZ.out hK1 (by omega) KS.out _ L3.out C3.out M3.out).mono ?_
    rintro e w4 ⟨o4, cp, rfl, hA, hb4⟩
    have A4 := Lib.hid (hA.base HB3.out.size); have HB4 := Lib.hid (HB3.out.trans (hb4.mono HB3.out.size))
    clear hA hb4
    go_wp2
    go_ret2
    exact ⟨o4, cp, rfl, A4.out, HB4.out⟩
end Go.Proofs.Ytbfhfadfjgfmaaa

/- Laws for the reference's PatternsOf. Written by gen_patsa.py. -/
set_option linter.unusedVariables false
set_option linter.unusedSimpArgs false
set_option linter.unusedSectionVars false
namespace Go.Proofs.Ytbfhfadfjgfmaaa
open Go.RowKit
theorem wpList_append_arrs4 {ops : Array Oper} {rest : List Oper} {o : Oper} {a : Act} {w : World} {Q : Exit → Act → World → Prop} (hgd : o.guard = none) {s x : Operand} {S : TypeId} (hS : Try.prog.underlying S = some (.slice 29))
    (ho : o.op = .call { callee := .builtin .append, args := #[s, x], argTypes := #[S, S] }) {B m c k cx : Nat} {a0 : Addr} {A : Option Addr} {f z : Nat → Int} (hs : a.eval s = .slice A m c) (hx : a.eval x = .slice (some a0) k cx)
    (hz : ∀ j, j < k * 4 → w.cell? (a0.add j) = some (.int .i64 (z j))) (hf : ∀ j, j < k * 4 → f (m * 4 + j) = z j) (hown : Arrs w 29 4 B A m c f) (hm : m + k ≤ 1000000) (hB : B ≤ w.heap.size)
    (h : ∀ A' c' w', Arrs w' 29 4 B A' (m + k) c' f → w.grownBy w' (Value.ownBlock (.slice A m c)) → wpList Try.prog ops Q rest (a.put o.dst (.slice A' (m + k) c')) w') : wpList Try.prog ops Q (o :: rest) a w := by
  obtain ⟨i, hi, h0, h1, h2⟩ := info_get infoA4
  refine wpList_append_own w hgd s x S ho B 29 i (.agg (row 4 (I fun _ => 0))) 4 32 hS hi h0 h1 h2 (row_size _ _) (by decide) _ m (intL f (m * 4)) hs hown a0 k cx (intL z (k * 4)) hx (intL_len _ _) ?_ ?_ ?_ ?_ hB ?_
  · intro j u hu
    have hj : j < k * 4 := by
      by_cases q : j < k * 4
      · exact q
      · rw [List.getElem?_eq_none (by rw [intL_len]; omega)] at hu; cases hu
    rw [intL_get z hj] at hu
    rw [hz j hj]
    exact hu
  · intro u hu
    simp only [intL, List.mem_map] at hu
    obtain ⟨j, _, rfl⟩ := hu
    rfl
  · unfold maxLen; omega
  · omega
  · intro v' w' hw' hg hn
    have e : intL f (m * 4) ++ intL z (k * 4) = intL f ((m + k) * 4) := by
      apply List.ext_getElem?
      intro p
      by_cases q1 : p < m * 4
      · rw [List.getElem?_append_left (by rw [intL_len]; exact q1), intL_get f q1, intL_get f (by omega)]
      · rw [List.getElem?_append_right (by rw [intL_len]; omega), intL_len]
        by_cases q2 : p < (m + k) * 4
        · rw [intL_get z (by omega), intL_get f q2, ← hf (p - m * 4) (by omega), show m * 4 + (p - m * 4) = p by omega]
        · rw [List.getElem?_eq_none (by rw [intL_len]; omega), List.getElem?_eq_none (by rw [intL_len]; omega)]
    rw [e] at hw'
    obtain ⟨o', c', rfl⟩ : ∃ o' c', v' = .slice o' (m + k) c' := by
      rcases hw'.2 with ⟨rfl, h00⟩ | ⟨g', cap, cur, rfl, _⟩
      · exact ⟨none, 0, by rw [h00]⟩
      · exact ⟨_, _, rfl⟩
    exact h _ _ w' hw' hg
theorem sizeA4 (w : World) : (sizeOf 29).run Try.prog w = .ok 4 w := by kernel_rfl
theorem elemA4 : Try.prog.elem 38 = 29 := by kernel_rfl
theorem slice_to4 (g i cp m : Nat) (h : m ≤ cp) (w : World) : (Instr.sliceAt 38 (.slice (some ⟨g, 0, none⟩) i cp) none (some (.int .i64 (m : Int))) none).run Try.prog w = .ok (.slice (some ⟨g, 0, none⟩) m cp) w := by
  rw [run_sliceAt_slice (P := Try.prog) w 38 _ _ _ _ (by kernel_rfl)]
  rw [run_slice_h (P := Try.prog) w 38 (some ⟨g, 0, none⟩) i cp (by kernel_rfl) .i64 (m : Int) (by omega) (by omega), elemA4, sizeA4]
  simp [sliced, addr_add]
theorem slice_from4 (g i cp m : Nat) (h : m ≤ cp) (h2 : m ≤ i) (w : World) : (Instr.sliceAt 38 (.slice (some ⟨g, 0, none⟩) i cp) (some (.int .i64 (m : Int))) none none).run Try.prog w = .ok (.slice (some ⟨g, if cp = m then 0 else m * 4, none⟩) (i - m) (cp - m)) w := by
  rw [run_sliceAt_slice (P := Try.prog) w 38 _ _ _ _ (by kernel_rfl)]
  rw [run_slice_l (P := Try.prog) w 38 (some ⟨g, 0, none⟩) i cp (by kernel_rfl) .i64 (m : Int) (by omega) (by omega), elemA4, sizeA4]
  simp only [sliced, Result.andThen_ok, Int.toNat_natCast, Option.map_some, addr_add, Nat.zero_add]
  by_cases e : cp = m
  · rw [if_pos e, if_pos e]
  · rw [if_neg e, if_neg e]
theorem flatQ_at (y : Nat → Nat → Int) {k j : Nat} (hj : j < 4) : flatQ y (k * 4 + j) = y k j := by
  unfold flatQ
  rw [show (k * 4 + j) / 4 = k by omega, show (k * 4 + j) % 4 = j by omega]
theorem run_neq4 (w : World) (p q : Operand) (f g : Nat → Int) : (do eqGuard .neq 29 p q (.agg (row 4 (I f))) (.agg (row 4 (I g))); binOp .neq 29 (.agg (row 4 (I f))) (.agg (row 4 (I g)))).run Try.prog w = .ok (.bool (!eqB 4 f g)) w := by
  have h1 := run_equal_arr (P := Try.prog) w 9998 4 29 3 f g Try.underlying29 Try.underlying3 Try.isAgg3 (fun w => by kernel_rfl)
  rw [Sem.run_bind, run_eqGuard_agg (P := Try.prog) w .neq 29 p q _ _ (by kernel_rfl), Result.andThen_ok, run_neq_struct, h1]
  rfl
theorem grown_neq4 {o : Oper} {a : Act} {w0 : World} {K : Act → Prop} {p q : Operand} {k : TypeId} (ho : o.op = .binOp .neq 29 p q k) {f g : Nat → Int} (hx : a.eval p = .agg (row 4 (I f))) (hy : a.eval q = .agg (row 4 (I g)))
    (hk : K (a.put o.dst (.bool (!eqB 4 f g)))) : o.quiet Try.prog a (Grew w0) K := by
  refine ⟨_, fun w hw => ?_, hk⟩
  have hr := run_neq4 w p q f g
  unfold Oper.quietAt execOp
  simp only [ho, hx, hy]
  simp only [Sem.run_bind] at hr ⊢
  rw [hr]
  exact ⟨rfl, rfl⟩
theorem insY_lt {y : Nat → Nat → Int} {K m p : Nat} {v : Nat → Int} (h : p < m) : insX y K m v p = y p := by
  simp only [insX]; rw [if_pos h]
theorem insY_at {y : Nat → Nat → Int} {K m : Nat} {v : Nat → Int} : insX y K m v m = v := by
  simp only [insX]; rw [if_neg (by omega), if_pos True.intro]
theorem insY_gt {y : Nat → Nat → Int} {K m p : Nat} {v : Nat → Int} (h : m ≤ p) (h2 : p < K) : insX y K m v (p + 1) = y p := by
  simp only [insX]; rw [if_neg (by omega), if_neg (by omega), if_pos (by omega)]; rfl
/-- What is open in the region that lays the new list. -/
structure QG where
  z : Nat
  a : Option Addr
  ca : Nat
  b : Nat
  d : Option Addr
  cd : Nat
  e : Option Addr
  ce : Nat
def WQ (W0 : World) (m k : Nat) (v : Nat → Int) (f : Nat → Int) (s : Nat → Bool) (q : QG) (w : World) : Prop :=
  Grew W0 w ∧ (s 0 = true → s 4 = false → Arrs w 29 4 W0.heap.size (some ⟨q.z, 0, none⟩) 0 0 f) ∧ (s 4 = true → s 7 = false → Arrs w 29 4 W0.heap.size q.a m q.ca f) ∧ (s 6 = true → s 7 = false → Blk w q.b 4 29 (I v)) ∧ (s 0 = true → s 6 = true → q.z ≠ q.b) ∧
  (s 7 = true → s 11 = false → Arrs w 29 4 W0.heap.size q.d (m + 1) q.cd f) ∧ (s 11 = true → Arrs w 29 4 W0.heap.size q.e (m + 1 + k) q.ce f) ∧ (s 4 = true → s 0 = true) ∧ (s 7 = true → s 4 = true) ∧ (s 11 = true → s 7 = true) ∧ (s 12 = true → ∀ j, j < 12 → s j = true) ∧ (s 7 = true → s 6 = true) ∧ (s 0 = true → q.z < w.heap.size) ∧ (s 6 = true → q.b < w.heap.size)
namespace WQ
variable {W0 w w' : World} {m k j : Nat} {v : Nat → Int} {f : Nat → Int} {s : Nat → Bool} {q : QG}
theorem init (q : QG) : WQ W0 m k v f (fun _ => false) q W0.drew := ⟨⟨rfl, rfl, rfl, Nat.le_refl _, fun _ _ => rfl⟩, by simp, by simp, by simp, by simp, by simp, by simp, by simp, by simp, by simp, by simp, by simp, by simp, by simp⟩
theorem keep (h : WQ W0 m k v f s q w) (hj : j = 1 ∨ j = 2 ∨ j = 3 ∨ j = 5 ∨ j = 8 ∨ j = 9 ∨ j = 10) : WQ W0 m k v f (upd s j true) q w := by
  obtain ⟨a0, a1, a2, a3, a4, a5, a6, a7, a8, a9, a10, a11, a12, a13⟩ := h
  have hl : upd s j true 12 = true → ∀ i, i < 12 → upd s j true i = true := fun e i hi => by
    have e2 : s 12 = true := by simp only [upd] at e; rw [if_neg (by omega)] at e; exact e
    simp only [upd]; split
    · rfl
    · exact a10 e2 i hi
  have u : ∀ i, i = 0 ∨ i = 4 ∨ i = 6 ∨ i = 7 ∨ i = 11 → upd s j true i = s i := fun i hi => by simp only [upd]; rw [if_neg (by omega)]
  refine ⟨a0, ?_, ?_, ?_, ?_, ?_, ?_, ?_, ?_, ?_, hl, ?_, ?_, ?_⟩ <;> simp only [u 0 (by omega), u 4 (by omega), u 6 (by omega), u 7 (by omega), u 11 (by omega)] <;> assumption
theorem no12 (h : WQ W0 m k v f s q w) (hs : s j = false) (hj : j < 12) : s 12 = false := by
  cases e : s 12
  · rfl
  · have := h.2.2.2.2.2.2.2.2.2.2.1 e j hj
    rw [hs] at this; cases this
theorem last (h : WQ W0 m k v f s q w) (ha : ∀ j, j < 12 → s j = true) : WQ W0 m k v f (upd s 12 true) q w := by
  obtain ⟨a0, a1, a2, a3, a4, a5, a6, a7, a8, a9, a10, a11, a12, a13⟩ := h
  have u : ∀ i, i < 12 → upd s 12 true i = s i := fun i hi => by simp only [upd]; rw [if_neg (by omega)]
  refine ⟨a0, ?_, ?_, ?_, ?_, ?_, ?_, ?_, ?_, ?_, fun _ i hi => by rw [u i hi]; exact ha i hi, ?_, ?_, ?_⟩ <;> simp only [u 0 (by omega), u 4 (by omega), u 6 (by omega), u 7 (by omega), u 11 (by omega)] <;> assumption
theorem fresh (h : WQ W0 m k v f s q w) (hs : s 0 = false) : WQ W0 m k v f (upd s 0 true) { q with z := w.heap.size } (w.alloc (.cells #[] 29)) := by
  obtain ⟨a0, a1, a2, a3, a4, a5, a6, a7, a8, a9, a10, a11, a12, a13⟩ := h
  have h4 : s 4 = false := by cases e : s 4; rfl; rw [a7 e] at hs; cases hs
  have h7 : s 7 = false := by cases e : s 7; rfl; rw [a8 e] at h4; cases h4
  have h11 : s 11 = false := by cases e : s 11; rfl; rw [a9 e] at h7; cases h7
  have h12 : s 12 = false := by cases e : s 12; rfl; rw [a10 e 0 (by omega)] at hs; cases hs
  refine ⟨a0.below.alloc a0.below.size _, fun _ _ => Arrs.empty w _ _ _ _ a0.below.size, by simp [upd, h4], fun e1 e2 => (a3 (by simpa [upd] using e1) h7).alloc _, fun _ e => ?_, by simp [upd, h7], by simp [upd, h11], by simp [upd], by simp [upd, h7], by simp [upd, h11], by simp [upd, h12], by simp [upd, h7], by simp, fun e => ?_⟩
  · have := a13 (by simpa [upd] using e); simp only; omega
  · have := a13 (by simpa [upd] using e); simp; omega
theorem box (h : WQ W0 m k v f s q w) (hs : s 6 = false) : WQ W0 m k v f (upd s 6 true) { q with b := w.heap.size } (w.alloc (.cells (row 4 (I v)) 29)) := by
  obtain ⟨a0, a1, a2, a3, a4, a5, a6, a7, a8, a9, a10, a11, a12, a13⟩ := h
  have h7 : s 7 = false := by cases e : s 7; rfl; rw [a11 e] at hs; cases hs
  have h11 : s 11 = false := by cases e : s 11; rfl; rw [a9 e] at h7; cases h7
  have h12 : s 12 = false := by cases e : s 12; rfl; rw [a10 e 6 (by omega)] at hs; cases hs
  have hb : Below w.heap.size w (w.alloc (.cells (row 4 (I v)) 29)) := (Below.refl _ _).alloc (Nat.le_refl _) _
  refine ⟨a0.below.alloc a0.below.size _, fun e1 e2 => (a1 (by simpa [upd] using e1) (by simpa [upd] using e2)).below hb, fun e1 e2 => (a2 (by simpa [upd] using e1) h7).below hb, fun _ _ => Blk.new _ _ _ _, fun e _ => ?_, by simp [upd, h7], by simp [upd, h11], by simpa [upd] using a7, by simp [upd, h7], by simp [upd, h11], by simp [upd, h12], by simp [upd], fun e => ?_, by simp⟩
  · have := a12 (by simpa [upd] using e); simp only; omega
  · have := a12 (by simpa [upd] using e); simp; omega
theorem app4 (h : WQ W0 m k v f s q w) (h0 : s 0 = true) (hs : s 4 = false) {o : Option Addr} {c : Nat} (hI : Arrs w' 29 4 W0.heap.size o m c f) (hg : w.grownBy w' (Value.ownBlock (.slice (some ⟨q.z, 0, none⟩) 0 0))) : WQ W0 m k v f (upd s 4 true) { q with a := o, ca := c } w' := by
  obtain ⟨a0, a1, a2, a3, a4, a5, a6, a7, a8, a9, a10, a11, a12, a13⟩ := h
  have h7 : s 7 = false := by cases e : s 7; rfl; rw [a8 e] at hs; cases hs
  have h11 : s 11 = false := by cases e : s 11; rfl; rw [a9 e] at h7; cases h7
  have h12 : s 12 = false := by cases e : s 12; rfl; rw [a10 e 4 (by omega)] at hs; cases hs
  have hA := a1 h0 hs
  refine ⟨below_grown a0.below hg (fun g e => (World.ownsRow.lt hA g e).1) a0.below.size, by simp [upd], fun _ _ => hI, fun e1 _ => (a3 (by simpa [upd] using e1) h7).grown hg (fun e => ?_), fun e1 e2 => a4 (by simpa [upd] using e1) (by simpa [upd] using e2), by simp [upd, h7], by simp [upd, h11], by simp [upd, h0], by simp [upd], by simp [upd, h11], by simp [upd, h12], by simp [upd, h7], fun e => Nat.lt_of_lt_of_le (a12 (by simpa [upd] using e)) hg.size, fun e => Nat.lt_of_lt_of_le (a13 (by simpa [upd] using e)) hg.size⟩
  simp only [Value.ownBlock, Option.some.injEq] at e
  exact a4 h0 (by simpa [upd] using e1) e.symm
theorem app7 (h : WQ W0 m k v f s q w) (h4 : s 4 = true) (h6 : s 6 = true) (hs : s 7 = false) {o : Option Addr} {c : Nat} (hI : Arrs w' 29 4 W0.heap.size o (m + 1) c f) (hg : w.grownBy w' (Value.ownBlock (.slice q.a m q.ca))) : WQ W0 m k v f (upd s 7 true) { q with d := o, cd := c } w' := by
  obtain ⟨a0, a1, a2, a3, a4, a5, a6, a7, a8, a9, a10, a11, a12, a13⟩ := h
  have h11 : s 11 = false := by cases e : s 11; rfl; rw [a9 e] at hs; cases hs
  have h12 : s 12 = false := by cases e : s 12; rfl; rw [a10 e 7 (by omega)] at hs; cases hs
  have hA := a2 h4 hs
  exact ⟨below_grown a0.below hg (fun g e => (World.ownsRow.lt hA g e).1) a0.below.size, by simp [upd, h4], by simp [upd], by simp [upd], fun e1 e2 => a4 (by simpa [upd] using e1) (by simpa [upd] using e2), fun _ _ => hI, by simp [upd, h11], by simpa [upd] using a7, by simp [upd, h4], by simp [upd], by simp [upd, h12], by simp [upd, h6], fun e => Nat.lt_of_lt_of_le (a12 (by simpa [upd] using e)) hg.size, fun e => Nat.lt_of_lt_of_le (a13 (by simpa [upd] using e)) hg.size⟩
theorem app11 (h : WQ W0 m k v f s q w) (h7 : s 7 = true) (hs : s 11 = false) {o : Option Addr} {c : Nat} (hI : Arrs w' 29 4 W0.heap.size o (m + 1 + k) c f) (hg : w.grownBy w' (Value.ownBlock (.slice q.d (m + 1) q.cd))) : WQ W0 m k v f (upd s 11 true) { q with e := o, ce := c } w' := by
  obtain ⟨a0, a1, a2, a3, a4, a5, a6, a7, a8, a9, a10, a11, a12, a13⟩ := h
  have h12 : s 12 = false := by cases e : s 12; rfl; rw [a10 e 11 (by omega)] at hs; cases hs
  have h4 := a8 h7
  have hA := a5 h7 hs
  exact ⟨below_grown a0.below hg (fun g e => (World.ownsRow.lt hA g e).1) a0.below.size, by simp [upd, h4], by simp [upd, h7], by simp [upd, h7], fun e1 e2 => a4 (by simpa [upd] using e1) (by simpa [upd] using e2), by simp [upd], fun _ => hI, by simpa [upd] using a7, by simpa [upd] using a8, by simp [upd, h7], by simp [upd, h12], by simpa [upd] using a11, fun e => Nat.lt_of_lt_of_le (a12 (by simpa [upd] using e)) hg.size, fun e => Nat.lt_of_lt_of_le (a13 (by simpa [upd] using e)) hg.size⟩
end WQ
end Go.Proofs.Ytbfhfadfjgfmaaa

/- The reference's PatternsOf. Written by gen_patss.py. -/
set_option linter.unusedVariables false
set_option linter.unusedSimpArgs false
set_option linter.unusedSectionVars false
namespace Go.Proofs.Ytbfhfadfjgfmaaa
open Go.RowKit
theorem all12 {s : Nat → Bool} (h : s 0 = true ∧ s 1 = true ∧ s 2 = true ∧ s 3 = true ∧ s 4 = true ∧ s 5 = true ∧ s 6 = true ∧ s 7 = true ∧ s 8 = true ∧ s 9 = true ∧ s 10 = true ∧ s 11 = true) : ∀ k, k < 12 → s k = true := by
  intro k hk
  obtain ⟨h0, h1, h2, h3, h4, h5, h6, h7, h8, h9, h10, h11⟩ := h
  match k, hk with
  | 0, _ => exact h0
  | 1, _ => exact h1
  | 2, _ => exact h2
  | 3, _ => exact h3
  | 4, _ => exact h4
  | 5, _ => exact h5
  | 6, _ => exact h6
  | 7, _ => exact h7
  | 8, _ => exact h8
  | 9, _ => exact h9
  | 10, _ => exact h10
  | 11, _ => exact h11
set_option maxRecDepth 100000 in
set_option maxHeartbeats 4000000 in
theorem sPatternsOf_any (o : Option Addr) (n c : Nat) (x : Nat → Nat → Int) (hn : n ≤ 1048576) (w : World) (h : PoolAt w o n x) : Calls Try.prog 23 #[poolV o n c] w fun e w' => ∃ A cp, e = .returned (.tuple #[.slice A (patK n x) cp, .bool (poolB n x)]) ∧ Arrs w' 29 4 w.heap.size A (patK n x) cp (patY n x) ∧ Below w.heap.size w w' := by
  have H := Lib.hid h; clear h
  cases g1 : poolB n x
  · have HV := Lib.hid (show patK n x = 0 by unfold patK; rw [g1]; rfl)
    rw [HV.out]
    go_enter Try.func23, Try.ntmps23
    go_wp2_with fail
    generalize hW : w.alloc (.cells #[] 29) = W0
    have Z0 := Lib.hid (show Arrs W0 29 4 w.heap.size (some ⟨w.heap.size, 0, none⟩) 0 0 (patY n x) from hW ▸ Arrs.empty w 29 4 w.heap.size _ (Nat.le_refl _))
    have HB0 := Lib.hid (show Below w.heap.size w W0 from hW ▸ (Below.refl _ _).alloc (Nat.le_refl _) _)
    have P0 := Lib.hid (H.out.below HB0.out)
    clear hW
    go_at_call 38
    refine (l2Pool_any o n c x hn _ P0.out).mono ?_
    rintro e w1 ⟨rfl, hb⟩
    have Z1 := Lib.hid (Z0.out.below hb); have HB1 := Lib.hid (HB0.out.trans (hb.mono HB0.out.size))
    clear hb
    rw [g1]
    go_wp2
    go_ret2
    exact ⟨_, 0, rfl, Z1.out, HB1.out⟩
  · have HV := Lib.hid (show patK n x = (stP n x (sixN n)).1 by unfold patK; rw [g1]; rfl)
    obtain ⟨n1, n4⟩ := pool_le g1
    have n8 : n ≤ 8 := by omega
    have s3 := sixN_small n4
    rw [HV.out]
    go_enter Try.func23, Try.ntmps23
    go_wp2_with fail
    generalize hW : w.alloc (.cells #[] 29) = W0
    have Z0 := Lib.hid (show Arrs W0 29 4 w.heap.size (some ⟨w.heap.size, 0, none⟩) 0 0 (flatQ (stP n x 0).2) from hW ▸ Arrs.empty w 29 4 w.heap.size _ (Nat.le_refl _))
    have HB0 := Lib.hid (show Below w.heap.size w W0 from hW ▸ (Below.refl _ _).alloc (Nat.le_refl _) _)
    have P0 := Lib.hid (H.out.below HB0.out)
    clear hW
    go_at_call 38
    refine (l2Pool_any o n c x hn _ P0.out).mono ?_
    rintro e w1 ⟨rfl, hb⟩
    have Z1 := Lib.hid (Z0.out.below hb); have HB1 := Lib.hid (HB0.out.trans (hb.mono HB0.out.size))
    clear hb Z0 HB0 P0
    rw [g1]
    clear g1
    go_wp2
    go_loopw [4, 5] (fun v i wr => ∃ m : Nat, m ≤ sixN n ∧ i = .int .i64 (m : Int) ∧ (∃ g cp, v = .slice (some ⟨g, 0, none⟩) (stP n x m).1 cp ∧ (stP n x m).1 ≤ cp ∧ Arrs wr 29 4 w.heap.size (some ⟨g, 0, none⟩) (stP n x m).1 cp (flatQ (stP n x m).2)) ∧ Below w.heap.size w wr) (fun v i _ => 1300 - (RowKit.intOf i).toNat)
    case atStart => exact ⟨0, by omega, rfl, ⟨_, 0, rfl, Nat.le_refl _, Z1.out⟩, HB1.out⟩
    case round =>
      obtain ⟨m, hm, rfl, ⟨g, cp, rfl, hcp, hI⟩, hb⟩ := hrel
      have hkm := stP_le n x m
      have HI := Lib.hid hI; have HB := Lib.hid hb
      clear hI hb Z1 HB1
      by_cases hlt : m < sixN n
      · have d0 : decide (m < sixN n) = true := by simp; omega
        obtain ⟨K, hK⟩ : ∃ K, K = (stP n x m).1 := ⟨_, rfl⟩
        obtain ⟨y, hy⟩ : ∃ y, y = (stP n x m).2 := ⟨_, rfl⟩
        obtain ⟨v, hv⟩ : ∃ v, v = patN n x m := ⟨_, rfl⟩
        have HKY := Lib.hid (show K = (stP n x m).1 ∧ y = (stP n x m).2 from ⟨hK, hy⟩)
        have HVV := Lib.hid (show patN n x m = v from hv.symm)
        have HPN := Lib.hid (show patF (plF (rollF n x m) n) n = v by rw [hv]; rfl)
        rw [← hK] at hkm hcp HI ⊢
        rw [← hy] at HI
        clear hK hy hv
        go_wp2_with fail
        go_at_call 53
        refine (l2All_any n n8 _).mono ?_
        rintro e w' ⟨rfl, rfl⟩
        obtain ⟨wo, rfl⟩ : ∃ wo : World, wo = wr := ⟨_, rfl⟩
        go_wp2_with fail
        go_at_call 54
        refine (l2Roll_any o n c x m n1 n4 (by omega) _ (H.out.below HB.out)).mono ?_
        rintro e w2 ⟨rfl, hA, hb⟩
        have A2 := Lib.hid hA; have I2 := Lib.hid (HI.out.below hb); have HB2 := Lib.hid (HB.out.trans (hb.mono HB.out.size))
        clear hA hb
        go_wp2_with fail
        go_at_call 48
        refine (l4Pattern_any wo.heap.size n (rollF n x m) n4 _ A2.out).mono ?_
        rintro e w3 ⟨rfl, hb⟩
        have I3 := Lib.hid (I2.out.below hb); have HB3 := Lib.hid (HB2.out.trans (hb.mono HB2.out.size))
        clear hb A2 I2 HB2 HI HB
        rw [HPN.out]
        go_wp2_with (first | (refine wpList_alloc_blk rfl 29 rfl zero4 ?_) | (((with_reducible apply wpList_store_new); (case hw => rfl); (case ho => rfl); (case hx => rfl); (case hy => rfl); (case hg => rfl); (case hi => exact sz4); (case h1 => exact fun _ _ => rfl))) | fail)
        generalize hW : w3.alloc (.cells (row 4 (I v)) 29) = W4
        obtain ⟨pb, hpb⟩ : ∃ pb, pb = w3.heap.size := ⟨_, rfl⟩
        have PB4 := Lib.hid (show Blk W4 pb 4 29 (I v) from hW ▸ hpb ▸ Blk.new _ _ _ _)
        have I4 := Lib.hid (show Arrs W4 29 4 w.heap.size (some ⟨g, 0, none⟩) K cp (flatQ y) from hW ▸ I3.out.below ((Below.refl _ _).alloc (Nat.le_refl _) _))
        have HB4 := Lib.hid (show Below w.heap.size w W4 from hW ▸ HB3.out.alloc HB3.out.size _)
        rw [← hpb]
        clear hW hpb I3 HB3
        go_loopw [7] (fun t wr => ∃ j : Nat, j ≤ K ∧ t = .int .i64 (j : Int) ∧ Hid (placeP K y v = upP y v K (K - j)) ∧ Arrs wr 29 4 w.heap.size (some ⟨g, 0, none⟩) K cp (flatQ y) ∧ Blk wr pb 4 29 (I v) ∧ Below w.heap.size w wr) (fun t _ => K - (RowKit.intOf t).toNat)
        case atStart => exact ⟨0, by omega, rfl, rfl, I4.out, PB4.out, HB4.out⟩
        case round =>
          obtain ⟨j, hj, rfl, HP, hI, hPB, hb⟩ := hrel
          clear I4 PB4 HB4
          have I5 := Lib.hid hI; have PB5 := Lib.hid hPB; have HB5 := Lib.hid hb
          clear hI hPB hb
          by_cases hjK : j < K
          · have d3 : decide (j < K) = true := by simp; omega
            have PC := Lib.hid (show ∀ k, k < 4 → wr.cell? ((⟨pb, 0, none⟩ : Addr).add k) = some (I v k) from fun k hk => by rw [addr_add, Nat.zero_add]; exact PB5.out.cell hk)
            have KC := Lib.hid (show ∀ k, k < 4 → wr.cell? ((⟨g, j * 4, none⟩ : Addr).add k) = some (I (y j) k) from fun k hk => by
              obtain ⟨g2, e2, _, _, c1⟩ := I5.out.cells (k := j) (by omega)
              obtain rfl : g = g2 := by injection e2 with e2; injection e2
              rw [c1 k hk]
              simp only [I, flatQ_at _ hk])
            have KL := Lib.hid (show g < wr.heap.size by
              obtain ⟨g2, e2, _, h3, _⟩ := I5.out.cells (k := j) (by omega)
              obtain rfl : g = g2 := by injection e2 with e2; injection e2
              exact h3)
            go_wp2
            refine wp_region_grown_lit (by kernel_rfl) (by kernel_rfl) ?_
            repeat (first | go_big_quiet_skip | (go_big_quiet_want; (first | (refine grown_load_cells 29 _ rfl rfl (PB5.out.lt) (PC.out) Try.isAgg29 sz4 ?_; simp only [Act.put, List.setIfInBounds_toArray, List.set_cons_succ, List.set_cons_zero]; go_big_quiet_on) | (refine grown_load_cells 29 _ rfl rfl (KL.out) (KC.out) Try.isAgg29 sz4 ?_; simp only [Act.put, List.setIfInBounds_toArray, List.set_cons_succ, List.set_cons_zero]; go_big_quiet_on) | (go_big_quiet_op; (first | go_big_quiet_on | (refine ⟨_, fun _ _ => rfl, ?_⟩; go_big_quiet_on) | (apply Exists.intro; refine ⟨fun _ hC => ?_, ?_⟩; (first | (go_at_call 57; with_reducible exact grown_of hC (l4Less_any v (y j) _))); go_big_quiet_on))))))
            refine wpQuiet_nil ?_
            intro wg hg
            clear PC KC KL
            have I6 := Lib.hid (I5.out.below hg.below); have PB6 := Lib.hid (PB5.out.below hg PB5.out.lt); have HB6 := Lib.hid (HB5.out.trans (hg.below.mono HB5.out.size))
            clear hg I5 PB5 HB5
            cases hls : lessP v (y j)
            · have b1 : decide (lexI v (y j) 4 0 < 0) = false := hls
              have HPJ := Lib.hid (show placeP K y v = j by rw [HP.out, show K - j = (K - j - 1) + 1 by omega]; simp only [upP]; rw [show K - (K - j - 1 + 1) = j by omega, hls]; rfl)
              clear hls
              rw [b1]
              have d4 : ((j : Int) == (K : Int)) = false := by simp; omega
              have PC := Lib.hid (show ∀ k, k < 4 → wg.cell? ((⟨pb, 0, none⟩ : Addr).add k) = some (I v k) from fun k hk => by rw [addr_add, Nat.zero_add]; exact PB6.out.cell hk)
              have KC := Lib.hid (show ∀ k, k < 4 → wg.cell? ((⟨g, j * 4, none⟩ : Addr).add k) = some (I (y j) k) from fun k hk => by
                obtain ⟨g2, e2, _, _, c1⟩ := I6.out.cells (k := j) (by omega)
                obtain rfl : g = g2 := by injection e2 with e2; injection e2
                rw [c1 k hk]
                simp only [I, flatQ_at _ hk])
              have KL := Lib.hid (show g < wg.heap.size by
                obtain ⟨g2, e2, _, h3, _⟩ := I6.out.cells (k := j) (by omega)
                obtain rfl : g = g2 := by injection e2 with e2; injection e2
                exact h3)
              obtain ⟨wp, hwp⟩ : ∃ wp, wp = wg := ⟨_, rfl⟩
              rw [← hwp] at PC KC KL I6 PB6 HB6 ⊢
              clear hwp
              go_wp2
              refine wp_region_grown_lit (by kernel_rfl) (by kernel_rfl) ?_
              repeat (first | go_big_quiet_skip | (go_big_quiet_want; (first | (refine grown_load_cells 29 _ rfl rfl (PB6.out.lt) (PC.out) Try.isAgg29 sz4 ?_; simp only [Act.put, List.setIfInBounds_toArray, List.set_cons_succ, List.set_cons_zero]; go_big_quiet_on) | (refine grown_load_cells 29 _ rfl rfl (KL.out) (KC.out) Try.isAgg29 sz4 ?_; simp only [Act.put, List.setIfInBounds_toArray, List.set_cons_succ, List.set_cons_zero]; go_big_quiet_on) | (refine grown_neq4 rfl rfl rfl ?_; simp only [Act.put, List.setIfInBounds_toArray, List.set_cons_succ, List.set_cons_zero]; go_big_quiet_on) | (go_big_quiet_op; (first | go_big_quiet_on | (refine ⟨_, fun _ _ => rfl, ?_⟩; go_big_quiet_on) | (apply Exists.intro; refine ⟨fun _ hC => ?_, ?_⟩; (first | fail); go_big_quiet_on))))))
              refine wpQuiet_nil ?_
              intro wg hg
              clear PC KC KL
              have I7 := Lib.hid (I6.out.below hg.below); have PB7 := Lib.hid (PB6.out.below hg PB6.out.lt); have HB7 := Lib.hid (HB6.out.trans (hg.below.mono HB6.out.size))
              clear hg I6 PB6 HB6
              rw [eqB_same]
              cases hsm : same4 (y j) v
              · have HTH := Lib.hid (show thereP K y v = false by unfold thereP; rw [HPJ.out, hsm, Bool.and_false])
                clear hsm
                go_wp2
                generalize hW0 : wg = W0 at I7 PB7 HB7 ⊢
                clear hW0
                have I0 := I7; have PB0 := PB7; have HB0 := HB7
                clear I7 PB7 HB7
                have HLE := Lib.hid (show j ≤ cp by omega)
                have HLE2 := Lib.hid (show j ≤ K by omega)
                have HM := Lib.hid (show 0 + j ≤ 1000000 by omega)
                have HM1 := Lib.hid (show j + 1 ≤ 1000000 by omega)
                have HM2 := Lib.hid (show j + 1 + (K - j) ≤ 1000000 by omega)
                have HIL := Lib.hid (show j + 1 + (K - j) = K + 1 by omega)
                have HLT := Lib.hid (fun p (hp : p < j * 4) => show flatQ y p = flatQ (insX y K j v) p by unfold flatQ; rw [insY_lt (by omega)])
                have HGT := Lib.hid (fun p (h1 : j * 4 ≤ p) (h2 : p < K * 4) => show flatQ (insX y K j v) (p + 4) = flatQ y p by unfold flatQ; rw [show (p + 4) / 4 = p / 4 + 1 by omega, show (p + 4) % 4 = p % 4 by omega, insY_gt (by omega) (by omega)])
                have CO := Lib.hid (fun (w' : World) (hG : Grew W0 w') (p : Nat) (hp : p < K * 4) => show w'.cell? ⟨g, p, none⟩ = some (.int .i64 (flatQ y p)) by
                  obtain ⟨g2, e2, _, _, c1⟩ := (I0.out.below hG.below).cell (k := p / 4) (j := p % 4) (by omega) (by omega)
                  obtain rfl : g = g2 := by injection e2 with e2; injection e2
                  rw [show p / 4 * 4 + p % 4 = p by omega] at c1
                  exact c1)
                obtain ⟨off, hoff⟩ : ∃ off, off = (if cp = j then 0 else j * 4) := ⟨_, rfl⟩
                have HSF := Lib.hid (fun w => show (Instr.sliceAt 38 (.slice (some ⟨g, 0, none⟩) K cp) (some (.int .i64 (j : Int))) none none).run Try.prog w = .ok (.slice (some ⟨g, off, none⟩) (K - j) (cp - j)) w by rw [hoff]; exact slice_from4 g K cp j HLE.out HLE2.out w)
                have HOF := Lib.hid (fun (h : j < K) => show off = j * 4 by rw [hoff, if_neg (by omega)])
                clear hoff
                refine wp_region_steps (by kernel_rfl) (by kernel_rfl) (fun q : QG => [(0, 50, .slice (some ⟨q.z, 0, none⟩) 0 0), (1, 51, .slice (some ⟨g, 0, none⟩) K cp), (2, 52, .int .i64 (j : Int)), (3, 53, .slice (some ⟨g, 0, none⟩) j cp), (4, 54, .slice q.a j q.ca), (5, 55, .agg (row 4 (I v))), (6, 56, .slice (some ⟨q.b, 0, none⟩) 1 1), (7, 57, .slice q.d (j + 1) q.cd), (8, 58, .slice (some ⟨g, 0, none⟩) K cp), (9, 59, .int .i64 (j : Int)), (10, 60, .slice (some ⟨g, off, none⟩) (K - j) (cp - j)), (11, 61, .slice q.e (j + 1 + (K - j)) q.ce), (12, 4, .slice q.e (j + 1 + (K - j)) q.ce)]) (WQ W0 j (K - j) v (flatQ (insX y K j v))) ⟨0, none, 0, 0, none, 0, none, 0⟩ (WQ.init _) ?_ ?_
                · refine (And.intro (fun s q wv hW hs hp => ?_) (And.intro (fun s q wv hW hs hp => ?_) (And.intro (fun s q wv hW hs hp => ?_) (And.intro (fun s q wv hW hs hp => ?_) (And.intro (fun s q wv hW hs hp => ?_) (And.intro (fun s q wv hW hs hp => ?_) (And.intro (fun s q wv hW hs hp => ?_) (And.intro (fun s q wv hW hs hp => ?_) (And.intro (fun s q wv hW hs hp => ?_) (And.intro (fun s q wv hW hs hp => ?_) (And.intro (fun s q wv hW hs hp => ?_) (And.intro (fun s q wv hW hs hp => ?_) (And.intro (fun s q wv hW hs hp => ?_) True.intro)))))))))))))
                  · have S12 : s 12 = false := hW.no12 hs (by decide); (try simp [waits, Region.binds, hs] at hp); (first | simp only [frm, List.foldl, Act.put, List.setIfInBounds_toArray, List.set_cons_succ, List.set_cons_zero, hs, hp, S12, cond_true, cond_false] | simp only [frm, List.foldl, Act.put, List.setIfInBounds_toArray, List.set_cons_succ, List.set_cons_zero, hs, S12, cond_true, cond_false]); have HW := Lib.hid hW; clear hW; go_wp2; refine ⟨{ q with z := wv.heap.size }, by (first | simp [frm, Act.put, upd, hs, hp, S12] | simp [frm, Act.put, upd, hs, S12]), HW.out.fresh hs⟩
                  · have S12 : s 12 = false := hW.no12 hs (by decide); (try simp [waits, Region.binds, hs] at hp); (first | simp only [frm, List.foldl, Act.put, List.setIfInBounds_toArray, List.set_cons_succ, List.set_cons_zero, hs, hp, S12, cond_true, cond_false] | simp only [frm, List.foldl, Act.put, List.setIfInBounds_toArray, List.set_cons_succ, List.set_cons_zero, hs, S12, cond_true, cond_false]); have HW := Lib.hid hW; clear hW; go_wp2; refine ⟨q, by (first | simp [frm, Act.put, upd, hs, hp, S12] | simp [frm, Act.put, upd, hs, S12]), HW.out.keep (by decide)⟩
                  · have S12 : s 12 = false := hW.no12 hs (by decide); (try simp [waits, Region.binds, hs] at hp); (first | simp only [frm, List.foldl, Act.put, List.setIfInBounds_toArray, List.set_cons_succ, List.set_cons_zero, hs, hp, S12, cond_true, cond_false] | simp only [frm, List.foldl, Act.put, List.setIfInBounds_toArray, List.set_cons_succ, List.set_cons_zero, hs, S12, cond_true, cond_false]); have HW := Lib.hid hW; clear hW; go_wp2; refine ⟨q, by (first | simp [frm, Act.put, upd, hs, hp, S12] | simp [frm, Act.put, upd, hs, S12]), HW.out.keep (by decide)⟩
                  · have S12 : s 12 = false := hW.no12 hs (by decide); (try simp [waits, Region.binds, hs] at hp); (first | simp only [frm, List.foldl, Act.put, List.setIfInBounds_toArray, List.set_cons_succ, List.set_cons_zero, hs, hp, S12, cond_true, cond_false] | simp only [frm, List.foldl, Act.put, List.setIfInBounds_toArray, List.set_cons_succ, List.set_cons_zero, hs, S12, cond_true, cond_false]); have HW := Lib.hid hW; clear hW; ((with_reducible apply wpList_slice_hi); (case hw => rfl); (case ho => rfl); (case hx => rfl); (case hy => rfl); (case hr => exact fun w => slice_to4 g K cp j HLE.out w)); go_wp2; refine ⟨q, by (first | simp [frm, Act.put, upd, hs, hp, S12] | simp [frm, Act.put, upd, hs, S12]), HW.out.keep (by decide)⟩
                  · have S12 : s 12 = false := hW.no12 hs (by decide); (try simp [waits, Region.binds, hs] at hp); (first | simp only [frm, List.foldl, Act.put, List.setIfInBounds_toArray, List.set_cons_succ, List.set_cons_zero, hs, hp, S12, cond_true, cond_false] | simp only [frm, List.foldl, Act.put, List.setIfInBounds_toArray, List.set_cons_succ, List.set_cons_zero, hs, S12, cond_true, cond_false]); have HW := Lib.hid hW; clear hW; have S0 : s 0 = true := (by simp [hp]); ((with_reducible apply (wpList_append_arrs4 (f := flatQ (insX y K j v)) (z := flatQ y))); (case hgd => rfl); (case ho => rfl); (case hs => rfl); (case hx => rfl); (case hS => exact Try.underlying38); (case hown => exact HW.out.2.1 S0 hs); (case hz => exact fun i hi => by have := HLE2.out; rw [addr_add, Nat.zero_add]; exact CO.out _ HW.out.1 i (by omega)); (case hf => exact fun i hi => by rw [Nat.zero_mul, Nat.zero_add]; exact (HLT.out i hi).symm); (case hm => exact HM.out); (case hB => exact HW.out.1.below.size); intro A2 c2 w2 hI2 hg2); rw [Nat.zero_add] at hI2; have HI2 := Lib.hid hI2; have HG2 := Lib.hid hg2; clear hI2 hg2; go_wp2; refine ⟨{ q with a := A2, ca := c2 }, by (first | simp [frm, Act.put, upd, hs, hp, S12] | simp [frm, Act.put, upd, hs, S12]), HW.out.app4 S0 hs HI2.out HG2.out⟩
                  · have S12 : s 12 = false := hW.no12 hs (by decide); (try simp [waits, Region.binds, hs] at hp); (first | simp only [frm, List.foldl, Act.put, List.setIfInBounds_toArray, List.set_cons_succ, List.set_cons_zero, hs, hp, S12, cond_true, cond_false] | simp only [frm, List.foldl, Act.put, List.setIfInBounds_toArray, List.set_cons_succ, List.set_cons_zero, hs, S12, cond_true, cond_false]); have HW := Lib.hid hW; clear hW; refine wpList_load_blk rfl 29 _ rfl (PB0.out.below HW.out.1 PB0.out.lt) rfl Try.underlying29 sz4 ?_; go_wp2; refine ⟨q, by (first | simp [frm, Act.put, upd, hs, hp, S12] | simp [frm, Act.put, upd, hs, S12]), HW.out.keep (by decide)⟩
                  · have S12 : s 12 = false := hW.no12 hs (by decide); (try simp [waits, Region.binds, hs] at hp); (first | simp only [frm, List.foldl, Act.put, List.setIfInBounds_toArray, List.set_cons_succ, List.set_cons_zero, hs, hp, S12, cond_true, cond_false] | simp only [frm, List.foldl, Act.put, List.setIfInBounds_toArray, List.set_cons_succ, List.set_cons_zero, hs, S12, cond_true, cond_false]); have HW := Lib.hid hW; clear hW; refine wpList_buildSlice1_4 rfl rfl (g := v) rfl ?_; go_wp2; refine ⟨{ q with b := wv.heap.size }, by (first | simp [frm, Act.put, upd, hs, hp, S12] | simp [frm, Act.put, upd, hs, S12]), HW.out.box hs⟩
                  · have S12 : s 12 = false := hW.no12 hs (by decide); (try simp [waits, Region.binds, hs] at hp); (first | simp only [frm, List.foldl, Act.put, List.setIfInBounds_toArray, List.set_cons_succ, List.set_cons_zero, hs, hp, S12, cond_true, cond_false] | simp only [frm, List.foldl, Act.put, List.setIfInBounds_toArray, List.set_cons_succ, List.set_cons_zero, hs, S12, cond_true, cond_false]); have HW := Lib.hid hW; clear hW; have S4 : s 4 = true := (by simp [hp]); have S6 : s 6 = true := (by simp [hp]); ((with_reducible apply (wpList_append_arrs4 (f := flatQ (insX y K j v)) (z := v))); (case hgd => rfl); (case ho => rfl); (case hs => rfl); (case hx => rfl); (case hS => exact Try.underlying38); (case hown => exact HW.out.2.2.1 S4 hs); (case hz => exact fun i hi => by rw [addr_add, Nat.zero_add]; exact (HW.out.2.2.2.1 S6 hs).cell (by omega)); (case hf => exact fun i hi => by rw [flatQ_at _ (by omega), insY_at]); (case hm => exact HM1.out); (case hB => exact HW.out.1.below.size); intro A2 c2 w2 hI2 hg2); have HI2 := Lib.hid hI2; have HG2 := Lib.hid hg2; clear hI2 hg2; go_wp2; refine ⟨{ q with d := A2, cd := c2 }, by (first | simp [frm, Act.put, upd, hs, hp, S12] | simp [frm, Act.put, upd, hs, S12]), HW.out.app7 S4 S6 hs HI2.out HG2.out⟩
                  · have S12 : s 12 = false := hW.no12 hs (by decide); (try simp [waits, Region.binds, hs] at hp); (first | simp only [frm, List.foldl, Act.put, List.setIfInBounds_toArray, List.set_cons_succ, List.set_cons_zero, hs, hp, S12, cond_true, cond_false] | simp only [frm, List.foldl, Act.put, List.setIfInBounds_toArray, List.set_cons_succ, List.set_cons_zero, hs, S12, cond_true, cond_false]); have HW := Lib.hid hW; clear hW; go_wp2; refine ⟨q, by (first | simp [frm, Act.put, upd, hs, hp, S12] | simp [frm, Act.put, upd, hs, S12]), HW.out.keep (by decide)⟩
                  · have S12 : s 12 = false := hW.no12 hs (by decide); (try simp [waits, Region.binds, hs] at hp); (first | simp only [frm, List.foldl, Act.put, List.setIfInBounds_toArray, List.set_cons_succ, List.set_cons_zero, hs, hp, S12, cond_true, cond_false] | simp only [frm, List.foldl, Act.put, List.setIfInBounds_toArray, List.set_cons_succ, List.set_cons_zero, hs, S12, cond_true, cond_false]); have HW := Lib.hid hW; clear hW; go_wp2; refine ⟨q, by (first | simp [frm, Act.put, upd, hs, hp, S12] | simp [frm, Act.put, upd, hs, S12]), HW.out.keep (by decide)⟩
                  · have S12 : s 12 = false := hW.no12 hs (by decide); (try simp [waits, Region.binds, hs] at hp); (first | simp only [frm, List.foldl, Act.put, List.setIfInBounds_toArray, List.set_cons_succ, List.set_cons_zero, hs, hp, S12, cond_true, cond_false] | simp only [frm, List.foldl, Act.put, List.setIfInBounds_toArray, List.set_cons_succ, List.set_cons_zero, hs, S12, cond_true, cond_false]); have HW := Lib.hid hW; clear hW; ((with_reducible apply wpList_slice_lo); (case hw => rfl); (case ho => rfl); (case hx => rfl); (case hy => rfl); (case hr => exact HSF.out)); go_wp2; refine ⟨q, by (first | simp [frm, Act.put, upd, hs, hp, S12] | simp [frm, Act.put, upd, hs, S12]), HW.out.keep (by decide)⟩
                  · have S12 : s 12 = false := hW.no12 hs (by decide); (try simp [waits, Region.binds, hs] at hp); (first | simp only [frm, List.foldl, Act.put, List.setIfInBounds_toArray, List.set_cons_succ, List.set_cons_zero, hs, hp, S12, cond_true, cond_false] | simp only [frm, List.foldl, Act.put, List.setIfInBounds_toArray, List.set_cons_succ, List.set_cons_zero, hs, S12, cond_true, cond_false]); have HW := Lib.hid hW; clear hW; have S7 : s 7 = true := (by simp [hp]); ((with_reducible apply (wpList_append_arrs4 (f := flatQ (insX y K j v)) (z := fun i => flatQ y (j * 4 + i)))); (case hgd => rfl); (case ho => rfl); (case hs => rfl); (case hx => rfl); (case hS => exact Try.underlying38); (case hown => exact HW.out.2.2.2.2.2.1 S7 hs); (case hz => exact fun i hi => by have := HLE2.out; rw [HOF.out (by omega), addr_add]; exact CO.out _ HW.out.1 (j * 4 + i) (by omega)); (case hf => exact fun i hi => by have := HLE2.out; rw [show (j + 1) * 4 + i = (j * 4 + i) + 4 by omega]; exact HGT.out (j * 4 + i) (by omega) (by omega)); (case hm => exact HM2.out); (case hB => exact HW.out.1.below.size); intro A2 c2 w2 hI2 hg2); have HI2 := Lib.hid hI2; have HG2 := Lib.hid hg2; clear hI2 hg2; go_wp2; refine ⟨{ q with e := A2, ce := c2 }, by (first | simp [frm, Act.put, upd, hs, hp, S12] | simp [frm, Act.put, upd, hs, S12]), HW.out.app11 S7 hs HI2.out HG2.out⟩
                  · (try simp [waits, Region.binds, hs] at hp); (first | simp only [frm, List.foldl, Act.put, List.setIfInBounds_toArray, List.set_cons_succ, List.set_cons_zero, hs, hp, cond_true, cond_false] | simp only [frm, List.foldl, Act.put, List.setIfInBounds_toArray, List.set_cons_succ, List.set_cons_zero, hs, cond_true, cond_false]); have HW := Lib.hid hW; clear hW; go_wp2; refine ⟨q, by (first | simp [frm, Act.put, upd, hs, hp] | simp [frm, Act.put, upd, hs]), HW.out.last (all12 (by simp [hp]))⟩
                · intro s q wg hW hall
                  have hs := fun i (hi : i < 13) => hall i (by simpa using hi)
                  simp only [frm, List.foldl, Act.put, List.setIfInBounds_toArray, List.set_cons_succ, List.set_cons_zero, hs 0 (by omega), hs 1 (by omega), hs 2 (by omega), hs 3 (by omega), hs 4 (by omega), hs 5 (by omega), hs 6 (by omega), hs 7 (by omega), hs 8 (by omega), hs 9 (by omega), hs 10 (by omega), hs 11 (by omega), hs 12 (by omega), cond_true]
                  have hI3 := hW.2.2.2.2.2.2.1 (hs 11 (by omega))
                  have HB3 := Lib.hid (HB0.out.trans (hW.1.below.mono HB0.out.size))
                  clear hW hs hall
                  obtain ⟨qz, qa, qca, qb, qd, qcd, qe, qce⟩ := q
                  simp only at hI3 ⊢
                  rw [HIL.out] at hI3 ⊢
                  obtain ⟨g3, rfl, _, _, _⟩ := hI3.cells (k := 0) (by omega)
                  have HI3 := Lib.hid (hI3.base HB0.out.size)
                  have HC3 := Lib.hid (show K + 1 ≤ qce by
                    obtain ⟨_, _, _, _, _, h5, _⟩ := own_form hI3 (by omega)
                    exact h5)
                  have HN := Lib.hid (show (stP n x (m + 1)).1 = K + 1 ∧ (stP n x (m + 1)).2 = insX y K j v by
                    have h1 : thereP K y v = false := HTH.out
                    simp only [stP]
                    rw [← HKY.out.1, ← HKY.out.2, HVV.out]
                    unfold nextK nextY
                    rw [h1, HPJ.out]
                    exact ⟨rfl, rfl⟩)
                  clear hI3
                  go_wp2
                  go_roundw
                  case rel => exact ⟨m + 1, by omega, by go_num, ⟨g3, qce, by rw [HN.out.1], by rw [HN.out.1]; exact HC3.out, by rw [HN.out.1, HN.out.2]; exact HI3.out⟩, HB3.out⟩
                  case measure => simp [RowKit.intOf]; omega
              · have HN := Lib.hid (show (stP n x (m + 1)).1 = K ∧ (stP n x (m + 1)).2 = y by
                  have h1 : thereP K y v = true := by unfold thereP; rw [HPJ.out, hsm, decide_eq_true hjK]; rfl
                  simp only [stP]
                  rw [← HKY.out.1, ← HKY.out.2, HVV.out]
                  unfold nextK nextY
                  rw [h1]
                  exact ⟨rfl, rfl⟩)
                clear hsm
                go_wp2
                go_roundw
                case rel => exact ⟨m + 1, by omega, by go_num, ⟨g, cp, by rw [HN.out.1], by rw [HN.out.1]; exact hcp, by rw [HN.out.1, HN.out.2]; exact I7.out⟩, HB7.out⟩
                case measure => simp [RowKit.intOf]; omega
            · have b1 : decide (lexI v (y j) 4 0 < 0) = true := hls
              have HP2 := Lib.hid (show placeP K y v = upP y v K (K - (j + 1)) by rw [HP.out, show K - j = (K - (j + 1)) + 1 by omega]; simp only [upP]; rw [show K - (K - (j + 1) + 1) = j by omega, hls]; rfl)
              clear hls
              rw [b1]
              go_wp2
              go_roundw
              case rel => exact ⟨j + 1, by omega, by go_num, HP2.out, I6.out, PB6.out, HB6.out⟩
              case measure => simp [RowKit.intOf]; omega
          · have HPJ := Lib.hid (show placeP K y v = j by rw [HP.out, show K - j = 0 by omega]; simp only [upP]; omega)
            have HTH := Lib.hid (show thereP K y v = false by unfold thereP; rw [HPJ.out, decide_eq_false (show ¬ j < K by omega)]; rfl)
            have d3 : decide (j < K) = false := by simp; omega
            have d4 : ((j : Int) == (K : Int)) = true := by simp; omega
            go_wp2
            go_quiet (fail)
            have hg : Grew wr (wr.drewN nq) := ⟨rfl, rfl, rfl, Nat.le_refl _, fun _ _ => rfl⟩
            have I6 := Lib.hid (I5.out.below hg.below); have PB6 := Lib.hid (PB5.out.below hg PB5.out.lt); have HB6 := Lib.hid (HB5.out.trans (hg.below.mono HB5.out.size))
            clear hg I5 PB5 HB5
            generalize hW6 : wr.drewN nq = W6 at I6 PB6 HB6 ⊢
            clear hW6
            go_wp2
            go_quiet (fail)
            have hg : Grew W6 (W6.drewN nq) := ⟨rfl, rfl, rfl, Nat.le_refl _, fun _ _ => rfl⟩
            have I0 := Lib.hid (I6.out.below hg.below); have PB0 := Lib.hid (PB6.out.below hg PB6.out.lt); have HB0 := Lib.hid (HB6.out.trans (hg.below.mono HB6.out.size))
            clear hg I6 PB6 HB6
            go_wp2
            generalize hW0 : W6.drewN nq = W0 at I0 PB0 HB0 ⊢
            clear hW0
            have HLE := Lib.hid (show j ≤ cp by omega)
            have HLE2 := Lib.hid (show j ≤ K by omega)
            have HM := Lib.hid (show 0 + j ≤ 1000000 by omega)
            have HM1 := Lib.hid (show j + 1 ≤ 1000000 by omega)
            have HM2 := Lib.hid (show j + 1 + (K - j) ≤ 1000000 by omega)
            have HIL := Lib.hid (show j + 1 + (K - j) = K + 1 by omega)
            have HLT := Lib.hid (fun p (hp : p < j * 4) => show flatQ y p = flatQ (insX y K j v) p by unfold flatQ; rw [insY_lt (by omega)])
            have HGT := Lib.hid (fun p (h1 : j * 4 ≤ p) (h2 : p < K * 4) => show flatQ (insX y K j v) (p + 4) = flatQ y p by unfold flatQ; rw [show (p + 4) / 4 = p / 4 + 1 by omega, show (p + 4) % 4 = p % 4 by omega, insY_gt (by omega) (by omega)])
            have CO := Lib.hid (fun (w' : World) (hG : Grew W0 w') (p : Nat) (hp : p < K * 4) => show w'.cell? ⟨g, p, none⟩ = some (.int .i64 (flatQ y p)) by
              obtain ⟨g2, e2, _, _, c1⟩ := (I0.out.below hG.below).cell (k := p / 4) (j := p % 4) (by omega) (by omega)
              obtain rfl : g = g2 := by injection e2 with e2; injection e2
              rw [show p / 4 * 4 + p % 4 = p by omega] at c1
              exact c1)
            obtain ⟨off, hoff⟩ : ∃ off, off = (if cp = j then 0 else j * 4) := ⟨_, rfl⟩
            have HSF := Lib.hid (fun w => show (Instr.sliceAt 38 (.slice (some ⟨g, 0, none⟩) K cp) (some (.int .i64 (j : Int))) none none).run Try.prog w = .ok (.slice (some ⟨g, off, none⟩) (K - j) (cp - j)) w by rw [hoff]; exact slice_from4 g K cp j HLE.out HLE2.out w)
            have HOF := Lib.hid (fun (h : j < K) => show off = j * 4 by rw [hoff, if_neg (by omega)])
            clear hoff
            refine wp_region_steps (by kernel_rfl) (by kernel_rfl) (fun q : QG => [(0, 50, .slice (some ⟨q.z, 0, none⟩) 0 0), (1, 51, .slice (some ⟨g, 0, none⟩) K cp), (2, 52, .int .i64 (j : Int)), (3, 53, .slice (some ⟨g, 0, none⟩) j cp), (4, 54, .slice q.a j q.ca), (5, 55, .agg (row 4 (I v))), (6, 56, .slice (some ⟨q.b, 0, none⟩) 1 1), (7, 57, .slice q.d (j + 1) q.cd), (8, 58, .slice (some ⟨g, 0, none⟩) K cp), (9, 59, .int .i64 (j : Int)), (10, 60, .slice (some ⟨g, off, none⟩) (K - j) (cp - j)), (11, 61, .slice q.e (j + 1 + (K - j)) q.ce), (12, 4, .slice q.e (j + 1 + (K - j)) q.ce)]) (WQ W0 j (K - j) v (flatQ (insX y K j v))) ⟨0, none, 0, 0, none, 0, none, 0⟩ (WQ.init _) ?_ ?_
            · refine (And.intro (fun s q wv hW hs hp => ?_) (And.intro (fun s q wv hW hs hp => ?_) (And.intro (fun s q wv hW hs hp => ?_) (And.intro (fun s q wv hW hs hp => ?_) (And.intro (fun s q wv hW hs hp => ?_) (And.intro (fun s q wv hW hs hp => ?_) (And.intro (fun s q wv hW hs hp => ?_) (And.intro (fun s q wv hW hs hp => ?_) (And.intro (fun s q wv hW hs hp => ?_) (And.intro (fun s q wv hW hs hp => ?_) (And.intro (fun s q wv hW hs hp => ?_) (And.intro (fun s q wv hW hs hp => ?_) (And.intro (fun s q wv hW hs hp => ?_) True.intro)))))))))))))
              · have S12 : s 12 = false := hW.no12 hs (by decide); (try simp [waits, Region.binds, hs] at hp); (first | simp only [frm, List.foldl, Act.put, List.setIfInBounds_toArray, List.set_cons_succ, List.set_cons_zero, hs, hp, S12, cond_true, cond_false] | simp only [frm, List.foldl, Act.put, List.setIfInBounds_toArray, List.set_cons_succ, List.set_cons_zero, hs, S12, cond_true, cond_false]); have HW := Lib.hid hW; clear hW; go_wp2; refine ⟨{ q with z := wv.heap.size }, by (first | simp [frm, Act.put, upd, hs, hp, S12] | simp [frm, Act.put, upd, hs, S12]), HW.out.fresh hs⟩
              · have S12 : s 12 = false := hW.no12 hs (by decide); (try simp [waits, Region.binds, hs] at hp); (first | simp only [frm, List.foldl, Act.put, List.setIfInBounds_toArray, List.set_cons_succ, List.set_cons_zero, hs, hp, S12, cond_true, cond_false] | simp only [frm, List.foldl, Act.put, List.setIfInBounds_toArray, List.set_cons_succ, List.set_cons_zero, hs, S12, cond_true, cond_false]); have HW := Lib.hid hW; clear hW; go_wp2; refine ⟨q, by (first | simp [frm, Act.put, upd, hs, hp, S12] | simp [frm, Act.put, upd, hs, S12]), HW.out.keep (by decide)⟩
              · have S12 : s 12 = false := hW.no12 hs (by decide); (try simp [waits, Region.binds, hs] at hp); (first | simp only [frm, List.foldl, Act.put, List.setIfInBounds_toArray, List.set_cons_succ, List.set_cons_zero, hs, hp, S12, cond_true, cond_false] | simp only [frm, List.foldl, Act.put, List.setIfInBounds_toArray, List.set_cons_succ, List.set_cons_zero, hs, S12, cond_true, cond_false]); have HW := Lib.hid hW; clear hW; go_wp2; refine ⟨q, by (first | simp [frm, Act.put, upd, hs, hp, S12] | simp [frm, Act.put, upd, hs, S12]), HW.out.keep (by decide)⟩
              · have S12 : s 12 = false := hW.no12 hs (by decide); (try simp [waits, Region.binds, hs] at hp); (first | simp only [frm, List.foldl, Act.put, List.setIfInBounds_toArray, List.set_cons_succ, List.set_cons_zero, hs, hp, S12, cond_true, cond_false] | simp only [frm, List.foldl, Act.put, List.setIfInBounds_toArray, List.set_cons_succ, List.set_cons_zero, hs, S12, cond_true, cond_false]); have HW := Lib.hid hW; clear hW; ((with_reducible apply wpList_slice_hi); (case hw => rfl); (case ho => rfl); (case hx => rfl); (case hy => rfl); (case hr => exact fun w => slice_to4 g K cp j HLE.out w)); go_wp2; refine ⟨q, by (first | simp [frm, Act.put, upd, hs, hp, S12] | simp [frm, Act.put, upd, hs, S12]), HW.out.keep (by decide)⟩
              · have S12 : s 12 = false := hW.no12 hs (by decide); (try simp [waits, Region.binds, hs] at hp); (first | simp only [frm, List.foldl, Act.put, List.setIfInBounds_toArray, List.set_cons_succ, List.set_cons_zero, hs, hp, S12, cond_true, cond_false] | simp only [frm, List.foldl, Act.put, List.setIfInBounds_toArray, List.set_cons_succ, List.set_cons_zero, hs, S12, cond_true, cond_false]); have HW := Lib.hid hW; clear hW; have S0 : s 0 = true := (by simp [hp]); ((with_reducible apply (wpList_append_arrs4 (f := flatQ (insX y K j v)) (z := flatQ y))); (case hgd => rfl); (case ho => rfl); (case hs => rfl); (case hx => rfl); (case hS => exact Try.underlying38); (case hown => exact HW.out.2.1 S0 hs); (case hz => exact fun i hi => by have := HLE2.out; rw [addr_add, Nat.zero_add]; exact CO.out _ HW.out.1 i (by omega)); (case hf => exact fun i hi => by rw [Nat.zero_mul, Nat.zero_add]; exact (HLT.out i hi).symm); (case hm => exact HM.out); (case hB => exact HW.out.1.below.size); intro A2 c2 w2 hI2 hg2); rw [Nat.zero_add] at hI2; have HI2 := Lib.hid hI2; have HG2 := Lib.hid hg2; clear hI2 hg2; go_wp2; refine ⟨{ q with a := A2, ca := c2 }, by (first | simp [frm, Act.put, upd, hs, hp, S12] | simp [frm, Act.put, upd, hs, S12]), HW.out.app4 S0 hs HI2.out HG2.out⟩
              · have S12 : s 12 = false := hW.no12 hs (by decide); (try simp [waits, Region.binds, hs] at hp); (first | simp only [frm, List.foldl, Act.put, List.setIfInBounds_toArray, List.set_cons_succ, List.set_cons_zero, hs, hp, S12, cond_true, cond_false] | simp only [frm, List.foldl, Act.put, List.setIfInBounds_toArray, List.set_cons_succ, List.set_cons_zero, hs, S12, cond_true, cond_false]); have HW := Lib.hid hW; clear hW; refine wpList_load_blk rfl 29 _ rfl (PB0.out.below HW.out.1 PB0.out.lt) rfl Try.underlying29 sz4 ?_; go_wp2; refine ⟨q, by (first | simp [frm, Act.put, upd, hs, hp, S12] | simp [frm, Act.put, upd, hs, S12]), HW.out.keep (by decide)⟩
              · have S12 : s 12 = false := hW.no12 hs (by decide); (try simp [waits, Region.binds, hs] at hp); (first | simp only [frm, List.foldl, Act.put, List.setIfInBounds_toArray, List.set_cons_succ, List.set_cons_zero, hs, hp, S12, cond_true, cond_false] | simp only [frm, List.foldl, Act.put, List.setIfInBounds_toArray, List.set_cons_succ, List.set_cons_zero, hs, S12, cond_true, cond_false]); have HW := Lib.hid hW; clear hW; refine wpList_buildSlice1_4 rfl rfl (g := v) rfl ?_; go_wp2; refine ⟨{ q with b := wv.heap.size }, by (first | simp [frm, Act.put, upd, hs, hp, S12] | simp [frm, Act.put, upd, hs, S12]), HW.out.box hs⟩
              · have S12 : s 12 = false := hW.no12 hs (by decide); (try simp [waits, Region.binds, hs] at hp); (first | simp only [frm, List.foldl, Act.put, List.setIfInBounds_toArray, List.set_cons_succ, List.set_cons_zero, hs, hp, S12, cond_true, cond_false] | simp only [frm, List.foldl, Act.put, List.setIfInBounds_toArray, List.set_cons_succ, List.set_cons_zero, hs, S12, cond_true, cond_false]); have HW := Lib.hid hW; clear hW; have S4 : s 4 = true := (by simp [hp]); have S6 : s 6 = true := (by simp [hp]); ((with_reducible apply (wpList_append_arrs4 (f := flatQ (insX y K j v)) (z := v))); (case hgd => rfl); (case ho => rfl); (case hs => rfl); (case hx => rfl); (case hS => exact Try.underlying38); (case hown => exact HW.out.2.2.1 S4 hs); (case hz => exact fun i hi => by rw [addr_add, Nat.zero_add]; exact (HW.out.2.2.2.1 S6 hs).cell (by omega)); (case hf => exact fun i hi => by rw [flatQ_at _ (by omega), insY_at]); (case hm => exact HM1.out); (case hB => exact HW.out.1.below.size); intro A2 c2 w2 hI2 hg2); have HI2 := Lib.hid hI2; have HG2 := Lib.hid hg2; clear hI2 hg2; go_wp2; refine ⟨{ q with d := A2, cd := c2 }, by (first | simp [frm, Act.put, upd, hs, hp, S12] | simp [frm, Act.put, upd, hs, S12]), HW.out.app7 S4 S6 hs HI2.out HG2.out⟩
              · have S12 : s 12 = false := hW.no12 hs (by decide); (try simp [waits, Region.binds, hs] at hp); (first | simp only [frm, List.foldl, Act.put, List.setIfInBounds_toArray, List.set_cons_succ, List.set_cons_zero, hs, hp, S12, cond_true, cond_false] | simp only [frm, List.foldl, Act.put, List.setIfInBounds_toArray, List.set_cons_succ, List.set_cons_zero, hs, S12, cond_true, cond_false]); have HW := Lib.hid hW; clear hW; go_wp2; refine ⟨q, by (first | simp [frm, Act.put, upd, hs, hp, S12] | simp [frm, Act.put, upd, hs, S12]), HW.out.keep (by decide)⟩
              · have S12 : s 12 = false := hW.no12 hs (by decide); (try simp [waits, Region.binds, hs] at hp); (first | simp only [frm, List.foldl, Act.put, List.setIfInBounds_toArray, List.set_cons_succ, List.set_cons_zero, hs, hp, S12, cond_true, cond_false] | simp only [frm, List.foldl, Act.put, List.setIfInBounds_toArray, List.set_cons_succ, List.set_cons_zero, hs, S12, cond_true, cond_false]); have HW := Lib.hid hW; clear hW; go_wp2; refine ⟨q, by (first | simp [frm, Act.put, upd, hs, hp, S12] | simp [frm, Act.put, upd, hs, S12]), HW.out.keep (by decide)⟩
              · have S12 : s 12 = false := hW.no12 hs (by decide); (try simp [waits, Region.binds, hs] at hp); (first | simp only [frm, List.foldl, Act.put, List.setIfInBounds_toArray, List.set_cons_succ, List.set_cons_zero, hs, hp, S12, cond_true, cond_false] | simp only [frm, List.foldl, Act.put, List.setIfInBounds_toArray, List.set_cons_succ, List.set_cons_zero, hs, S12, cond_true, cond_false]); have HW := Lib.hid hW; clear hW; ((with_reducible apply wpList_slice_lo); (case hw => rfl); (case ho => rfl); (case hx => rfl); (case hy => rfl); (case hr => exact HSF.out)); go_wp2; refine ⟨q, by (first | simp [frm, Act.put, upd, hs, hp, S12] | simp [frm, Act.put, upd, hs, S12]), HW.out.keep (by decide)⟩
              · have S12 : s 12 = false := hW.no12 hs (by decide); (try simp [waits, Region.binds, hs] at hp); (first | simp only [frm, List.foldl, Act.put, List.setIfInBounds_toArray, List.set_cons_succ, List.set_cons_zero, hs, hp, S12, cond_true, cond_false] | simp only [frm, List.foldl, Act.put, List.setIfInBounds_toArray, List.set_cons_succ, List.set_cons_zero, hs, S12, cond_true, cond_false]); have HW := Lib.hid hW; clear hW; have S7 : s 7 = true := (by simp [hp]); ((with_reducible apply (wpList_append_arrs4 (f := flatQ (insX y K j v)) (z := fun i => flatQ y (j * 4 + i)))); (case hgd => rfl); (case ho => rfl); (case hs => rfl); (case hx => rfl); (case hS => exact Try.underlying38); (case hown => exact HW.out.2.2.2.2.2.1 S7 hs); (case hz => exact fun i hi => by have := HLE2.out; rw [HOF.out (by omega), addr_add]; exact CO.out _ HW.out.1 (j * 4 + i) (by omega)); (case hf => exact fun i hi => by have := HLE2.out; rw [show (j + 1) * 4 + i = (j * 4 + i) + 4 by omega]; exact HGT.out (j * 4 + i) (by omega) (by omega)); (case hm => exact HM2.out); (case hB => exact HW.out.1.below.size); intro A2 c2 w2 hI2 hg2); have HI2 := Lib.hid hI2; have HG2 := Lib.hid hg2; clear hI2 hg2; go_wp2; refine ⟨{ q with e := A2, ce := c2 }, by (first | simp [frm, Act.put, upd, hs, hp, S12] | simp [frm, Act.put, upd, hs, S12]), HW.out.app11 S7 hs HI2.out HG2.out⟩
              · (try simp [waits, Region.binds, hs] at hp); (first | simp only [frm, List.foldl, Act.put, List.setIfInBounds_toArray, List.set_cons_succ, List.set_cons_zero, hs, hp, cond_true, cond_false] | simp only [frm, List.foldl, Act.put, List.setIfInBounds_toArray, List.set_cons_succ, List.set_cons_zero, hs, cond_true, cond_false]); have HW := Lib.hid hW; clear hW; go_wp2; refine ⟨q, by (first | simp [frm, Act.put, upd, hs, hp] | simp [frm, Act.put, upd, hs]), HW.out.last (all12 (by simp [hp]))⟩
            · intro s q wg hW hall
              have hs := fun i (hi : i < 13) => hall i (by simpa using hi)
              simp only [frm, List.foldl, Act.put, List.setIfInBounds_toArray, List.set_cons_succ, List.set_cons_zero, hs 0 (by omega), hs 1 (by omega), hs 2 (by omega), hs 3 (by omega), hs 4 (by omega), hs 5 (by omega), hs 6 (by omega), hs 7 (by omega), hs 8 (by omega), hs 9 (by omega), hs 10 (by omega), hs 11 (by omega), hs 12 (by omega), cond_true]
              have hI3 := hW.2.2.2.2.2.2.1 (hs 11 (by omega))
              have HB3 := Lib.hid (HB0.out.trans (hW.1.below.mono HB0.out.size))
              clear hW hs hall
              obtain ⟨qz, qa, qca, qb, qd, qcd, qe, qce⟩ := q
              simp only at hI3 ⊢
              rw [HIL.out] at hI3 ⊢
              obtain ⟨g3, rfl, _, _, _⟩ := hI3.cells (k := 0) (by omega)
              have HI3 := Lib.hid (hI3.base HB0.out.size)
              have HC3 := Lib.hid (show K + 1 ≤ qce by
                obtain ⟨_, _, _, _, _, h5, _⟩ := own_form hI3 (by omega)
                exact h5)
              have HN := Lib.hid (show (stP n x (m + 1)).1 = K + 1 ∧ (stP n x (m + 1)).2 = insX y K j v by
                have h1 : thereP K y v = false := HTH.out
                simp only [stP]
                rw [← HKY.out.1, ← HKY.out.2, HVV.out]
                unfold nextK nextY
                rw [h1, HPJ.out]
                exact ⟨rfl, rfl⟩)
              clear hI3
              go_wp2
              go_roundw
              case rel => exact ⟨m + 1, by omega, by go_num, ⟨g3, qce, by rw [HN.out.1], by rw [HN.out.1]; exact HC3.out, by rw [HN.out.1, HN.out.2]; exact HI3.out⟩, HB3.out⟩
              case measure => simp [RowKit.intOf]; omega
      · have d0 : decide (m < sixN n) = false := by simp; omega
        obtain rfl : m = sixN n := by omega
        go_wp2_with fail
        go_at_call 53
        refine (l2All_any n n8 _).mono ?_
        rintro e w' ⟨rfl, rfl⟩
        go_wp2
        go_ret2
        exact ⟨_, cp, rfl, HI.out, HB.out⟩
end Go.Proofs.Ytbfhfadfjgfmaaa
