/- Slices of texts that a call has made: what they own, how a law compares them, marks them and asks for the marks; append of one text. -/
import Derived.Test.YthjfnfhadgmglaaDoorBase
import Derived.Test.YthjfnfhadgmglaaDoorRows
import Derived.Laws.AppendOwn
import Derived.Laws.OwnMore
import Derived.Laws.Concat
import Derived.Lib.ItoaNum
import Derived.IntWalk
set_option linter.unusedVariables false
set_option linter.unusedSimpArgs false
set_option linter.unusedSectionVars false
namespace Go.Proofs.YthjfnfhadgmglaaDoor
open Go.RowKit
theorem rowS_of_array (cs : Array Value) (N : Nat) (h : cs.size = N) : ∃ F, cs = row N F := by
  refine ⟨fun i => cs.getD i undef, ?_⟩
  subst h
  apply Array.ext
  · simp [row_size]
  · intro i h1 h2
    simp [row, Array.getD_eq_getD_getElem?, h1]
theorem grownS_none {w w' : World} (h : Below w.heap.size w w') (row : Option Nat) : w.grownBy w' row := ⟨h.os, h.tape, h.output, h.size, fun k hk _ => h.block k hk⟩
theorem grownS_refl (w : World) (row : Option Nat) : w.grownBy w row := ⟨rfl, rfl, rfl, Nat.le_refl _, fun _ _ _ => rfl⟩
theorem grownS_set {w w' : World} {g : Nat} (h : w.grownBy w' (some g)) (k : Nat) (v : Value) : w.grownBy (w'.setCell ⟨g, k, none⟩ v) (some g) :=
  ⟨h.os, h.tape, h.output, by simpa using h.size, fun b hb hne => by
    rw [heap_setCell_other w' ⟨g, k, none⟩ b v (fun e => hne (by rw [e]))]
    exact h.block b hb hne⟩
theorem grownS_then {w w1 w2 : World} {r : Option Nat} (h : w.grownBy w1 r) (hb : Below w1.heap.size w1 w2) : w.grownBy w2 r :=
  ⟨hb.os.trans h.os, hb.tape.trans h.tape, hb.output.trans h.output, Nat.le_trans h.size hb.size, fun b hlt hne => (hb.block b (by have := h.size; omega)).trans (h.block b hlt hne)⟩
theorem belowS_grown {B : Nat} {w0 w w' : World} {row : Option Nat} (h : Below B w0 w) (hg : w.grownBy w' row) (hr : ∀ g, row = some g → B ≤ g) (hB : B ≤ w.heap.size) : Below B w0 w' :=
  h.trans ⟨hg.os, hg.tape, hg.output, hg.size, fun k hk => hg.block k (by omega) (fun e => by have := hr _ e.symm; omega)⟩
theorem str_ne {a b : ByteArray} (h : a ≠ b) : (a.toList == b.toList) = false := by
  rw [beq_eq_false_iff_ne, Go.ByteArray.toList_eq, Go.ByteArray.toList_eq]
  intro e
  apply h
  apply ByteArray.ext
  exact Array.toList_inj.1 e
/-- A package-level variable reads on as it did. -/
theorem var_keep {P : Program} {W W' : World} {g : Nat} {n : String} {cs : Array Value} (hg : P.globalNamed n = some g) (h : W.var? P n = some cs) (hb : Below W.heap.size W W') : W'.var? P n = some cs := by
  unfold World.var? at h ⊢
  rw [hg] at h ⊢
  simp only [Option.bind_some] at h ⊢
  have hlt : g < W.heap.size := by
    rcases Nat.lt_or_ge g W.heap.size with h' | h'
    · exact h'
    · rw [Array.getElem?_eq_none h'] at h; cases h
  rw [hb.block g hlt]
  exact h
theorem cell_keep {W W' : World} {a : Addr} {v : Value} (h : W.cell? a = some v) (hb : Below W.heap.size W W') : W'.cell? a = some v :=
  (Below.cell hb (World.block_lt_of_cell? W _ h)).trans h
/-- The cells of m texts. -/
def strL (f : Nat → ByteArray) (m : Nat) : List Value := (List.range m).map fun i => .string (f i)
theorem strL_len (f : Nat → ByteArray) (m : Nat) : (strL f m).length = m := by simp [strL]
theorem strL_get (f : Nat → ByteArray) {m i : Nat} (h : i < m) : (strL f m)[i]? = some (.string (f i)) := by simp [strL, h]
theorem strL_snoc (f : Nat → ByteArray) (m : Nat) : strL f m ++ [.string (f m)] = strL f (m + 1) := by simp [strL, List.range_succ]
/-- A slice value that owns m texts from block B on. -/
def Strs (w : World) (B : Nat) (o : Option Addr) (m c : Nat) (f : Nat → ByteArray) : Prop := w.ownsRow B 9 1 (.slice o m c) m (strL f m)
namespace Strs
variable {w w' : World} {B m c : Nat} {o : Option Addr} {f : Nat → ByteArray}
theorem below (h : Strs w B o m c f) (hb : Below w.heap.size w w') : Strs w' B o m c f := World.ownsRow.kept (row := Option.none) h (grownS_none hb Option.none) (by cases Value.ownBlock (.slice o m c) <;> simp)
theorem form (h : Strs w B o m c f) (hn : 0 < m) : ∃ g F, o = some ⟨g, 0, none⟩ ∧ B ≤ g ∧ m ≤ c ∧ c ≤ maxLen ∧ Blk w g c 9 F ∧ (∀ i, i < m → F i = .string (f i)) ∧ g < w.heap.size := by
  obtain ⟨h1, h2⟩ := h
  rcases h2 with ⟨_, h0⟩ | ⟨g, cap, cur, hv, hb, hg, hnc, hcm, hcs, htk⟩
  · omega
  · injection hv with e1 e2 e3
    subst e1; subst e3
    rw [Nat.mul_one] at hcs
    obtain ⟨F, hF⟩ := rowS_of_array cur c hcs
    subst hF
    refine ⟨g, F, rfl, hb, hnc, hcm, hg, fun i hi => ?_, (Array.getElem?_eq_some_iff.1 hg).1⟩
    have := strL_get f hi
    rw [← htk, List.getElem?_take_of_lt (by omega), Array.getElem?_toList, row_get (by omega)] at this
    exact Option.some.inj this
theorem ofBlk {g : Nat} {F : Nat → Value} (hB : B ≤ g) (hnc : m ≤ c) (hcm : c ≤ maxLen) (hb : Blk w g c 9 F) (hx : ∀ i, i < m → F i = .string (f i)) : Strs w B (some ⟨g, 0, none⟩) m c f := by
  refine ⟨by rw [strL_len, Nat.mul_one], .inr ⟨g, c, _, rfl, hB, hb, hnc, hcm, by rw [row_size, Nat.mul_one], ?_⟩⟩
  apply List.ext_getElem?
  intro i
  by_cases hi : i < m
  · rw [List.getElem?_take_of_lt (by omega), strL_get f hi, Array.getElem?_toList, row_get (by omega), hx i hi]
  · rw [List.getElem?_eq_none (by simp; omega), List.getElem?_eq_none (by rw [strL_len]; omega)]
theorem cell (h : Strs w B o m c f) {k : Nat} (hk : k < m) : ∃ g, o = some ⟨g, 0, none⟩ ∧ B ≤ g ∧ g < w.heap.size ∧ w.cell? ⟨g, k, none⟩ = some (.string (f k)) := by
  obtain ⟨g, F, h1, h2, h3, _, h4, h5, h6⟩ := h.form (by omega)
  exact ⟨g, h1, h2, h6, by rw [h4.cell (by omega), h5 k hk]⟩
theorem grown {row : Option Nat} (h : Strs w B o m c f) (hg : w.grownBy w' row) (hne : Value.ownBlock (.slice o m c) = Option.none ∨ Value.ownBlock (.slice o m c) ≠ row) : Strs w' B o m c f := World.ownsRow.kept h hg hne
theorem nil (w : World) (B : Nat) (f : Nat → ByteArray) : Strs w B Option.none 0 0 f := ⟨by simp [strL], .inl ⟨rfl, rfl⟩⟩
theorem lt (h : Strs w B o m c f) {g : Nat} (e : Value.ownBlock (.slice o m c) = some g) : B ≤ g ∧ g < w.heap.size := World.ownsRow.lt h g e
theorem sep {w1 w2 : World} {B2 m2 c2 : Nat} {o2 : Option Addr} {f2 : Nat → ByteArray} (h : Strs w1 B o m c f) (h2 : Strs w2 B2 o2 m2 c2 f2) (hB : w1.heap.size ≤ B2) : Value.ownBlock (.slice o m c) = Option.none ∨ Value.ownBlock (.slice o m c) ≠ Value.ownBlock (.slice o2 m2 c2) := by
  cases q : Value.ownBlock (.slice o m c) with
  | none => exact .inl rfl
  | some k =>
    refine .inr fun e => ?_
    have a1 := (h.lt q).2
    have a2 := (h2.lt e.symm).1
    omega
theorem congr {g : Nat → ByteArray} (h : Strs w B o m c f) (e : ∀ i, i < m → f i = g i) : Strs w B o m c g := by
  have : strL f m = strL g m := by
    unfold strL
    apply List.map_congr_left
    intro i hi
    rw [e i (List.mem_range.1 hi)]
  unfold Strs at *
  rw [← this]
  exact h
theorem base {B' : Nat} (h : Strs w B o m c f) (hB : B' ≤ B) : Strs w B' o m c f := by
  refine ⟨h.1, ?_⟩
  rcases h.2 with h0 | ⟨g, cap, cur, h1, h2, h3⟩
  · exact .inl h0
  · exact .inr ⟨g, cap, cur, h1, by omega, h3⟩
theorem slice {v : Value} (h : w.ownsRow B 9 1 v m (strL f m)) : ∃ o c, v = .slice o m c ∧ Strs w B o m c f := by
  have h' := h
  rcases h.2 with ⟨rfl, rfl⟩ | ⟨g, cap, cur, rfl, _⟩
  · exact ⟨Option.none, 0, rfl, h'⟩
  · exact ⟨some ⟨g, 0, none⟩, cap, rfl, h'⟩
theorem empty (w : World) (B : Nat) (f : Nat → ByteArray) (hB : B ≤ w.heap.size) : Strs (w.alloc (.cells #[] 9)) B (some ⟨w.heap.size, 0, none⟩) 0 0 f :=
  Strs.ofBlk (F := fun _ => undef) hB (Nat.le_refl _) (by omega) (Blk.new w 0 9 _) (fun i hi => by omega)
theorem append_below {w0 wr w2 : World} {q : Obj} (hb : Below w0.heap.size w0 wr) (hI : Strs wr B o m c f) (hB : w0.heap.size ≤ B) (hg : (wr.alloc q).grownBy w2 (Value.ownBlock (.slice o m c))) : Below w0.heap.size w0 w2 :=
  belowS_grown (hb.alloc hb.size q) hg (fun g e => by have := (hI.lt e).1; omega) (by have := hb.size; simp; omega)
end Strs
theorem infoS : (Tryd.prog.info? 9).map (fun i => (i.zero, i.size, i.bytes)) = some (some (.string ⟨#[]⟩), 1, 16) := by kernel_rfl
theorem infoS_get {P : Program} {T : TypeId} {z : Value} {s b : Nat} (h : (P.info? T).map (fun i => (i.zero, i.size, i.bytes)) = some (some z, s, b)) : ∃ i, P.info? T = some i ∧ i.zero = some z ∧ i.size = s ∧ i.bytes = b := by
  cases hq : P.info? T with
  | none => rw [hq] at h; cases h
  | some i =>
    rw [hq] at h
    simp only [Option.map_some, Option.some.injEq, Prod.mk.injEq] at h
    exact ⟨i, rfl, h.1, h.2.1, h.2.2⟩
/-- append(out, z), out of the call's own: behind it the slice owns one text more. -/
theorem wpList_append_str {ops : Array Oper} {rest : List Oper} {o : Oper} {a : Act} {w : World} {Q : Exit → Act → World → Prop} (hgd : o.guard = none) {s x : Operand} {S : TypeId} (hS : Tryd.prog.underlying S = some (.slice 9))
    (ho : o.op = .call { callee := .builtin .append, args := #[s, x], argTypes := #[S, S] }) {B m c g : Nat} {A : Option Addr} {f : Nat → ByteArray} {z : ByteArray} (hs : a.eval s = .slice A m c) (hx : a.eval x = .slice (some ⟨g, 0, none⟩) 1 1)
    (hz : w.cell? ⟨g, 0, none⟩ = some (.string z)) (hf : f m = z) (hown : Strs w B A m c f) (hm : m ≤ 2000000) (hB : B ≤ w.heap.size)
    (h : ∀ A' c' w', Strs w' B A' (m + 1) c' f → w.grownBy w' (Value.ownBlock (.slice A m c)) → wpList Tryd.prog ops Q rest (a.put o.dst (.slice A' (m + 1) c')) w') : wpList Tryd.prog ops Q (o :: rest) a w := by
  obtain ⟨i, hi, h0, h1, h2⟩ := infoS_get infoS
  refine wpList_append_own w hgd s x S ho B 9 i (.string ⟨#[]⟩) 1 16 hS hi h0 h1 h2 rfl (by decide) _ m (strL f m) hs hown ⟨g, 0, none⟩ 1 1 [.string z] hx rfl ?_ ?_ ?_ ?_ hB ?_
  · intro j u hu
    cases j with
    | zero => simp at hu; subst hu; exact hz
    | succ j => simp at hu
  · intro u hu; simp at hu; subst hu; rfl
  · unfold maxLen; omega
  · omega
  · intro v' w' hw' hg _
    rw [← hf, strL_snoc] at hw'
    obtain ⟨o', c', rfl, hI⟩ := Strs.slice hw'
    exact h o' c' w' hI hg
/-- The texts of a list, by place. -/
def atS (l : List ByteArray) (i : Nat) : ByteArray := l.getD i ⟨#[]⟩
theorem atS_snoc {l : List ByteArray} {z : ByteArray} {i : Nat} (h : i < l.length) : atS l i = atS (l ++ [z]) i := by
  unfold atS
  rw [List.getD_eq_getElem?_getD, List.getD_eq_getElem?_getD, List.getElem?_append_left h]
theorem atS_last (l : List ByteArray) (z : ByteArray) : atS (l ++ [z]) l.length = z := by
  unfold atS
  rw [List.getD_eq_getElem?_getD, List.getElem?_append_right (Nat.le_refl _)]
  simp
theorem wpList_append_strs {ops : Array Oper} {rest : List Oper} {o : Oper} {a : Act} {w : World} {Q : Exit → Act → World → Prop} (hgd : o.guard = none) {s x : Operand} {S : TypeId} (hS : Tryd.prog.underlying S = some (.slice 9))
    (ho : o.op = .call { callee := .builtin .append, args := #[s, x], argTypes := #[S, S] }) {B c g : Nat} {l : List ByteArray} {A : Option Addr} {z : ByteArray} (hs : a.eval s = .slice A l.length c) (hx : a.eval x = .slice (some ⟨g, 0, none⟩) 1 1)
    (hz : w.cell? ⟨g, 0, none⟩ = some (.string z)) (hown : Strs w B A l.length c (atS l)) (hm : l.length ≤ 2000000) (hB : B ≤ w.heap.size)
    (h : ∀ A' c' w', Strs w' B A' (l ++ [z]).length c' (atS (l ++ [z])) → w.grownBy w' (Value.ownBlock (.slice A l.length c)) → wpList Tryd.prog ops Q rest (a.put o.dst (.slice A' (l ++ [z]).length c')) w') : wpList Tryd.prog ops Q (o :: rest) a w :=
  wpList_append_str (f := atS (l ++ [z])) hgd hS ho hs hx hz (atS_last l z) (hown.congr fun i hi => atS_snoc hi) hm hB (fun A' c' w' h1 h2 => by
    have := h A' c' w'
    simp only [List.length_append, List.length_cons, List.length_nil, Nat.zero_add] at this
    exact this h1 h2)
theorem grown_load_str {P : Program} {o : Oper} {a : Act} {w0 : World} {K : Act → Prop} (ty : TypeId) (x : Operand) (ho : o.op = .load ty x) {p : Addr} {v : Value} (hx : a.eval x = .pointer (some p)) (hc : w0.cell? p = some v) (ha : ∀ w, (isAgg ty).run P w = .ok false w)
    (hk : K (a.put o.dst v)) : o.quiet P a (Grew w0) K := by
  have hp : p.block < w0.heap.size := World.block_lt_of_cell? w0 p hc
  refine ⟨_, fun w hw => ?_, hk⟩
  have hl : (loadVar ty p).run P w = .ok v w := by
    have : w.cell? p = some v := (Below.cell hw hp).trans hc
    simp [loadVar, Sem.run_bind, ha, this]
  unfold Oper.quietAt execOp
  simp only [ho, hx, Instr.loadAt, Instr.sureAddr, Sem.run_bind, Sem.run_pure, Result.andThen_ok, hl]
  exact ⟨rfl, rfl⟩
end Go.Proofs.YthjfnfhadgmglaaDoor
