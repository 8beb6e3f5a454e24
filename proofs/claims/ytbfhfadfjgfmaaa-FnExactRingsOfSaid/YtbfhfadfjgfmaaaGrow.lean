/- A load of one cell in a region whose calls make memory; append of one element to a row of the call's own. -/
import Derived.Test.YtbfhfadfjgfmaaaInts
import Derived.Test.YtbfhfadfjgfmaaaSafest
import Derived.IntWalk
import Derived.Test.YtbfhfadfjgfmaaaFrac
set_option linter.unusedVariables false
set_option linter.unusedSimpArgs false
set_option linter.unusedSectionVars false
namespace Go.Proofs.Ytbfhfadfjgfmaaa
open Go.RowKit
theorem grown_load_int {P : Program} {o : Oper} {a : Act} {w0 : World} {K : Act → Prop} (ty : TypeId) (x : Operand) (ho : o.op = .load ty x) {p : Addr} {v : Value} (hx : a.eval x = .pointer (some p)) (hc : w0.cell? p = some v) (ha : ∀ w, (isAgg ty).run P w = .ok false w)
    (hk : K (a.put o.dst v)) : o.quiet P a (Grew w0) K := by
  have hp : p.block < w0.heap.size := World.block_lt_of_cell? w0 p hc
  refine ⟨_, fun w hw => ?_, hk⟩
  have hl : (loadVar ty p).run P w = .ok v w := by
    have : w.cell? p = some v := (Below.cell hw hp).trans hc
    simp [loadVar, Sem.run_bind, ha, this]
  unfold Oper.quietAt execOp
  simp only [ho, hx, Instr.loadAt, Instr.sureAddr, Sem.run_bind, Sem.run_pure, Result.andThen_ok, hl]
  exact ⟨rfl, rfl⟩
theorem infoI : (Try.prog.info? 3).map (fun i => (i.zero, i.size, i.bytes)) = some (some (.int .i64 0), 1, 8) := by kernel_rfl
theorem info_get {P : Program} {T : TypeId} {z : Value} {s b : Nat} (h : (P.info? T).map (fun i => (i.zero, i.size, i.bytes)) = some (some z, s, b)) : ∃ i, P.info? T = some i ∧ i.zero = some z ∧ i.size = s ∧ i.bytes = b := by
  cases hq : P.info? T with
  | none => rw [hq] at h; cases h
  | some i =>
    rw [hq] at h
    simp only [Option.map_some, Option.some.injEq, Prod.mk.injEq] at h
    exact ⟨i, rfl, h.1, h.2.1, h.2.2⟩
theorem intL_snoc (f : Nat → Int) (m : Nat) : intL f m ++ [.int .i64 (f m)] = intL f (m + 1) := by simp [intL, List.range_succ, I]
theorem Ints.slice {w : World} {B m : Nat} {v : Value} {f : Nat → Int} (h : w.ownsRow B 3 1 v m (intL f m)) : ∃ o c, v = .slice o m c ∧ Ints w B o m c f := by
  have h' := h
  rcases h.2 with ⟨rfl, rfl⟩ | ⟨g, cap, cur, rfl, _⟩
  · exact ⟨none, 0, rfl, h'⟩
  · exact ⟨some ⟨g, 0, none⟩, cap, rfl, h'⟩
/-- append(out, z), out of the call's own: behind it the slice owns one int more. -/
theorem wpList_append_int {ops : Array Oper} {rest : List Oper} {o : Oper} {a : Act} {w : World} {Q : Exit → Act → World → Prop} (hgd : o.guard = none) {s x : Operand} {S : TypeId} (hS : Try.prog.underlying S = some (.slice 3))
    (ho : o.op = .call { callee := .builtin .append, args := #[s, x], argTypes := #[S, S] }) {B m c g : Nat} {A : Option Addr} {f : Nat → Int} {z : Int} (hs : a.eval s = .slice A m c) (hx : a.eval x = .slice (some ⟨g, 0, none⟩) 1 1)
    (hz : w.cell? ⟨g, 0, none⟩ = some (.int .i64 z)) (hf : f m = z) (hown : Ints w B A m c f) (hm : m ≤ 1000000) (hB : B ≤ w.heap.size)
    (h : ∀ A' c' w', Ints w' B A' (m + 1) c' f → w.grownBy w' (Value.ownBlock (.slice A m c)) → wpList Try.prog ops Q rest (a.put o.dst (.slice A' (m + 1) c')) w') : wpList Try.prog ops Q (o :: rest) a w := by
  obtain ⟨i, hi, h0, h1, h2⟩ := info_get infoI
  refine wpList_append_own w hgd s x S ho B 3 i (.int .i64 0) 1 8 hS hi h0 h1 h2 rfl (by decide) _ m (intL f m) hs hown ⟨g, 0, none⟩ 1 1 [.int .i64 z] hx rfl ?_ ?_ ?_ ?_ hB ?_
  · intro j u hu
    cases j with
    | zero => simp at hu; subst hu; exact hz
    | succ j => simp at hu
  · intro u hu; simp at hu; subst hu; rfl
  · unfold maxLen; omega
  · omega
  · intro v' w' hw' hg _
    rw [← hf, intL_snoc] at hw'
    obtain ⟨o', c', rfl, hI⟩ := Ints.slice hw'
    exact h o' c' w' hI hg
theorem Ints.base {w : World} {B B' m c : Nat} {A : Option Addr} {f : Nat → Int} (h : Ints w B A m c f) (hB : B' ≤ B) : Ints w B' A m c f := by
  refine ⟨h.1, ?_⟩
  rcases h.2 with h0 | ⟨g, cap, cur, h1, h2, h3⟩
  · exact .inl h0
  · exact .inr ⟨g, cap, cur, h1, by omega, h3⟩
theorem Blk.grown {w w' : World} {b n : Nat} {T : TypeId} {f : Nat → Value} {r : Option Nat} (h : Blk w b n T f) (hg : w.grownBy w' r) (hne : some b ≠ r) : Blk w' b n T f := (hg.block b h.lt hne).trans h
theorem Ints.apart_blk {w : World} {B m c b : Nat} {A : Option Addr} {f : Nat → Int} (h : Ints w B A m c f) (hb : b < B) : some b ≠ Value.ownBlock (.slice A m c) := fun e => by
  have := (World.ownsRow.lt h b e.symm).1
  omega
theorem Ints.congr {w : World} {B m c : Nat} {A : Option Addr} {f g : Nat → Int} (h : Ints w B A m c f) (e : ∀ i, i < m → f i = g i) : Ints w B A m c g := by
  have : intL f m = intL g m := by
    unfold intL
    apply List.map_congr_left
    intro i hi
    simp only [I, e i (List.mem_range.1 hi)]
  unfold Ints at *
  rw [← this]
  exact h
/-- The ints of a list, by place. -/
def at0 (l : List Int) (i : Nat) : Int := l.getD i 0
theorem at0_snoc {l : List Int} {z : Int} {i : Nat} (h : i < l.length) : at0 l i = at0 (l ++ [z]) i := by
  unfold at0
  rw [List.getD_eq_getElem?_getD, List.getD_eq_getElem?_getD, List.getElem?_append_left h]
theorem at0_last (l : List Int) (z : Int) : at0 (l ++ [z]) l.length = z := by
  unfold at0
  rw [List.getD_eq_getElem?_getD, List.getElem?_append_right (Nat.le_refl _)]
  simp
theorem wpList_append_list {ops : Array Oper} {rest : List Oper} {o : Oper} {a : Act} {w : World} {Q : Exit → Act → World → Prop} (hgd : o.guard = none) {s x : Operand} {S : TypeId} (hS : Try.prog.underlying S = some (.slice 3))
    (ho : o.op = .call { callee := .builtin .append, args := #[s, x], argTypes := #[S, S] }) {B c g : Nat} {l : List Int} {A : Option Addr} {z : Int} (hs : a.eval s = .slice A l.length c) (hx : a.eval x = .slice (some ⟨g, 0, none⟩) 1 1)
    (hz : w.cell? ⟨g, 0, none⟩ = some (.int .i64 z)) (hown : Ints w B A l.length c (at0 l)) (hm : l.length ≤ 1000000) (hB : B ≤ w.heap.size)
    (h : ∀ A' c' w', Ints w' B A' (l ++ [z]).length c' (at0 (l ++ [z])) → w.grownBy w' (Value.ownBlock (.slice A l.length c)) → wpList Try.prog ops Q rest (a.put o.dst (.slice A' (l ++ [z]).length c')) w') : wpList Try.prog ops Q (o :: rest) a w :=
  wpList_append_int (f := at0 (l ++ [z])) hgd hS ho hs hx hz (at0_last l z) (hown.congr fun i hi => at0_snoc hi) hm hB (fun A' c' w' h1 h2 => by
    have := h A' c' w'
    simp only [List.length_append, List.length_cons, List.length_nil, Nat.zero_add] at this
    exact this h1 h2)
theorem Ints.empty (w : World) (B : Nat) (f : Nat → Int) (hB : B ≤ w.heap.size) : Ints (w.alloc (.cells #[] 3)) B (some ⟨w.heap.size, 0, none⟩) 0 0 f :=
  Ints.ofBlk hB (Nat.le_refl _) (by omega) (Blk.new w 0 3 (I f)) (fun i hi => by omega)
/-- Behind an append to a slice of the call's own. -/
theorem Ints.append_below {w0 wr w2 : World} {B m c : Nat} {A : Option Addr} {f : Nat → Int} {q : Obj} (hb : Below w0.heap.size w0 wr) (hI : Ints wr B A m c f) (hB : w0.heap.size ≤ B) (hg : (wr.alloc q).grownBy w2 (Value.ownBlock (.slice A m c))) : Below w0.heap.size w0 w2 :=
  below_grown (hb.alloc hb.size q) hg (fun g e => by have := (World.ownsRow.lt hI g e).1; omega) (by have := hb.size; simp; omega)
theorem Ints.append_size {wr w2 : World} {q : Obj} {r : Option Nat} (hg : (wr.alloc q).grownBy w2 r) : wr.heap.size ≤ w2.heap.size := by have := hg.size; simp at this; omega
end Go.Proofs.Ytbfhfadfjgfmaaa
