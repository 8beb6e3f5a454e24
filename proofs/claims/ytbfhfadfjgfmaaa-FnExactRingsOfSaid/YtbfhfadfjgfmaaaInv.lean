/- A region that draws its order, by an invariant over which of its operations are done: one short walk for each operation, whatever the order. -/
import Derived.Test.YtbfhfadfjgfmaaaBase
set_option linter.unusedVariables false
set_option linter.unusedSimpArgs false
set_option linter.unusedSectionVars false
namespace Go.Proofs.Ytbfhfadfjgfmaaa
open Go.RowKit
section
variable {P : Program} {ops : Array Oper} {Q : Exit → Act → World → Prop}
theorem wpOp_imp {i : Nat} {K K' : Act → World → Prop} {a : Act} {w : World} (h : ∀ a w, K a w → K' a w) (hh : wpOp P ops Q i K a w) : wpOp P ops Q i K' a w := wpOp_mono h hh
theorem wpAny_inv {n : Nat} (hn : ops.size = n) (acyc : ∀ i o, ops[i]? = some o → ∀ e ∈ o.after, Region.binds .any e = true → e.on < i) (I : (Nat → Bool) → Act → World → Prop)
    (step : ∀ s a w i o, I s a w → ops[i]? = some o → s i = false → (∀ e ∈ o.after, Region.binds .any e = true → s e.on = true) → wpOp P ops Q i (I (upd s i true)) a w)
    (fin : ∀ s a w, I s a w → (∀ i, i < n → s i = true) → Q .normal a w) (fuel : Nat) :
    ∀ ls a w, ls.size = n → ls.toList.count false = fuel → I (fun i => ls.getD i false) a w → wpAny P .any ops Q fuel ls a w := by
  have all : ∀ ls : Array Bool, ls.size = n → Region.ready .any ops ls = [] → ∀ i, i < n → ls.getD i false = true := by
    intro ls hsz hr i
    induction i using Nat.strongRecOn with
    | _ i ih =>
      intro hi
      cases hl : ls.getD i false
      · obtain ⟨o, ho⟩ : ∃ o, ops[i]? = some o := ⟨ops[i]'(by omega), Array.getElem?_eq_getElem (by omega)⟩
        have hm : i ∈ Region.ready .any ops ls := mem_ready.2 ⟨by simp [show i < ls.size by omega] at hl ⊢; exact hl, o, ho, fun e he hb => by
          have h1 := acyc i o ho e he hb
          exact ih _ h1 (by omega)⟩
        rw [hr] at hm; cases hm
      · rfl
  induction fuel with
  | zero =>
    intro ls a w hsz hc hI
    have hr : Region.ready .any ops ls = [] := by
      apply List.eq_nil_iff_forall_not_mem.2
      intro j hj
      have h1 := (mem_ready.1 hj).1
      have hj' : j < ls.size := by
        by_cases h : j < ls.size
        · exact h
        · simp [Array.getElem?_eq_none (show ls.size ≤ j by omega)] at h1
      have h2 : false ∈ ls.toList := by
        simp [hj'] at h1
        rw [← h1]; simp
      have := List.count_pos_iff.2 h2
      omega
    exact ⟨hr, fin _ _ _ hI (all ls hsz hr)⟩
  | succ f ih =>
    intro ls a w hsz hc hI
    refine ⟨fun hr => fin _ _ _ hI (all ls hsz hr), fun i hi => ?_⟩
    obtain ⟨h1, o, ho, h2⟩ := mem_ready.1 hi
    have hi' : i < ls.size := by have := (Array.getElem?_eq_some_iff.1 ho).1; omega
    have hf : ls[i] = false := by simpa [hi'] using h1
    refine wpOp_imp (fun a' w' h' => ih _ a' w' (by simp [hsz]) ?_ ?_) (step _ a w i o hI ho (by simp [hi', hf]) h2)
    · rw [Array.toList_setIfInBounds, List.count_set (by simpa using hi')]
      have hc' : Array.count false ls = f + 1 := by rw [← Array.count_toList]; exact hc
      simp [hf, hc']
    · have e : (fun j => (ls.setIfInBounds i true).getD j false) = upd (fun j => ls.getD j false) i true := by
        funext j
        simp only [upd]
        by_cases hj : j = i
        · subst hj; simp [hi']
        · rw [if_neg hj, getD_set_ne false (fun h => hj h.symm)]
      rw [e]; exact h'
/-- The post of a way out by panic, and of memory that has run out, is as it was. -/
theorem wp_other {o : Oper} {a : Act} {w : World} {K K' : Act → World → Prop} (J : Act → World → Prop) (h : o.wp P a w K (fun x a' w' => match x with | .normal => J a' w' | x => Q x a' w')) (hK : ∀ a w, K a w → K' a w) : o.wp P a w K' Q := by
  unfold Oper.wp at *
  generalize (execOp a.eval o).run P w = r at *
  cases r with
  | ok n w' =>
    cases n <;> simp only [Oper.upon] at h ⊢
    case value => exact hK _ _ h
    case skip => exact hK _ _ h
    case defer => exact hK _ _ h
    case row => exact h.mono fun _ _ h' => hK _ _ h'
    case enter =>
      refine h.mono fun e w'' h' => ?_
      cases e with
      | returned v => exact hK _ _ h'
      | panicked c => exact h'
      | outgrown => obtain ⟨a', w3, hq⟩ := h'; exact ⟨a', w3, hq⟩
  | halt x w' =>
    cases x <;> simp only [Oper.upon] at h ⊢
    all_goals exact h
/-- Every edge that binds goes to an earlier operation. -/
def backB (l : List Oper) : Bool := l.zipIdx.all fun (o, i) => o.after.all fun e => !Region.binds .any e || decide (e.on < i)
theorem wp_region_inv {id : Nat} {a : Act} {w : World} {l : List Oper} (hm : P.follows .mixedOrders = true) (hB : backB l = true) (I : (Nat → Bool) → Act → World → Prop)
    (h0 : I (fun _ => false) a { w with drawn := w.drawn + 1 })
    (step : ∀ s a w i o, I s a w → l[i]? = some o → s i = false → (∀ e ∈ o.after, Region.binds .any e = true → s e.on = true) →
      wpList P l.toArray (fun x a' w' => match x with | .normal => I (upd s i true) a' w' | x => Q x a' w') [o] a w)
    (fin : ∀ s a w, I s a w → (∀ i, i < l.length → s i = true) → Q .normal a w) : (Code.region id l.toArray true).wp P Q a w := by
  refine wp_region_any hm (wpAny_inv (n := l.length) (by simp) ?_ I ?_ fin _ _ a _ (by simp) (by simp) ?_)
  · intro i o ho e he hb
    have h1 := List.all_eq_true.1 hB (o, i) (by rw [List.mem_zipIdx_iff_getElem?]; simpa using ho)
    have h2 := Array.all_eq_true'.1 h1 e he
    simpa [hb] using h2
  · intro s a w i o hI ho hs hp
    have h := step s a w i o hI (by simpa using ho) hs hp
    unfold wpList at h
    unfold wpOp
    rw [ho]
    by_cases hw : Region.wanted o (yielded l.toArray a.tmps) = true
    · simp only [hw, if_true] at h ⊢
      exact h.imp (fun h => wp_other _ h (fun _ _ h => h)) (fun h => ⟨h.1, by obtain ⟨_, a', w', hq⟩ := h; exact ⟨a', w', hq⟩⟩)
    · simp only [hw, if_false] at h ⊢
      exact h
  · have e : (fun i => (Array.replicate l.toArray.size false).getD i false) = fun _ => false := by
      funext i
      simp only [Array.getD_eq_getD_getElem?, Array.getElem?_replicate]
      split <;> rfl
    rw [e]; exact h0

/-- The frame when the operations that s names are done: each has put its value into its slot. -/
def frm (a : Act) (s : Nat → Bool) (L : List (Nat × Nat × Value)) : Act := L.foldl (fun x (i, d, v) => x.put (some d) (cond (s i) v (a.tmps.getD d undef))) a
theorem put_same (a : Act) (d : Nat) : a.put (some d) (a.tmps.getD d undef) = a := by
  have h : a.tmps.setIfInBounds d (a.tmps.getD d undef) = a.tmps := by
    apply Array.ext
    · simp
    · intro j h1 h2
      rw [Array.getElem_setIfInBounds (by simpa using h1)]
      split
      · rename_i e; subst e; simp [show d < a.tmps.size from h2]
      · rfl
  show ({ a with tmps := a.tmps.setIfInBounds d (a.tmps.getD d undef) } : Act) = a
  rw [h]
theorem frm_none (a : Act) (L : List (Nat × Nat × Value)) : frm a (fun _ => false) L = a := by
  unfold frm
  induction L with
  | nil => rfl
  | cons x L ih => obtain ⟨i, d, v⟩ := x; simp only [List.foldl_cons, cond_false, put_same]; exact ih
/-- What s says of the operations that o waits for. -/
def waits (s : Nat → Bool) : List Edge → Prop
  | [] => True
  | e :: r => (Region.binds .any e = true → s e.on = true) ∧ waits s r
theorem waits_of {s : Nat → Bool} {l : List Edge} (h : ∀ e ∈ l, Region.binds .any e = true → s e.on = true) : waits s l := by
  induction l with
  | nil => trivial
  | cons e r ih => exact ⟨h e (by simp), ih fun e' he => h e' (by simp [he])⟩
/-- An operation is done: what holds behind it. -/
def Done {G : Type} (a : Act) (L : G → List (Nat × Nat × Value)) (W : (Nat → Bool) → G → World → Prop) (s : Nat → Bool) (a' : Act) (w' : World) : Prop := ∃ g', a' = frm a s (L g') ∧ W s g' w'
/-- One short walk for each operation. -/
def stepsOf {G : Type} (P : Program) (ops : Array Oper) (Q : Exit → Act → World → Prop) (a : Act) (L : G → List (Nat × Nat × Value)) (W : (Nat → Bool) → G → World → Prop) : List Oper → Nat → Prop
  | [], _ => True
  | o :: r, i => (∀ (s : Nat → Bool) (g : G) (w : World), W s g w → s i = false → waits s o.after.toList →
      wpList P ops (fun x a' w' => match x with | .normal => Done a L W (upd s i true) a' w' | x => Q x a' w') [o] (frm a s (L g)) w) ∧ stepsOf P ops Q a L W r (i + 1)
theorem stepsOf_get {G : Type} {a : Act} {L : G → List (Nat × Nat × Value)} {W : (Nat → Bool) → G → World → Prop} (l : List Oper) : ∀ (k : Nat), stepsOf P ops Q a L W l k → ∀ (i : Nat) (o : Oper), l[i]? = some o →
    ∀ (s : Nat → Bool) (g : G) (w : World), W s g w → s (k + i) = false → waits s o.after.toList →
      wpList P ops (fun x a' w' => match x with | .normal => Done a L W (upd s (k + i) true) a' w' | x => Q x a' w') [o] (frm a s (L g)) w := by
  induction l with
  | nil => intro k _ i o h; simp at h
  | cons o' r ih =>
    intro k h i o ho
    cases i with
    | zero =>
      obtain rfl : o' = o := by simpa using ho
      exact h.1
    | succ i =>
      have := ih (k + 1) h.2 i o (by simpa using ho)
      rw [show k + 1 + i = k + (i + 1) by omega] at this
      exact this
theorem wp_region_steps {G : Type} {id : Nat} {a : Act} {w : World} {l : List Oper} (hm : P.follows .mixedOrders = true) (hB : backB l = true) (L : G → List (Nat × Nat × Value)) (W : (Nat → Bool) → G → World → Prop)
    (g0 : G) (h0 : W (fun _ => false) g0 w.drew) (step : stepsOf P l.toArray Q a L W l 0)
    (fin : ∀ s g w', W s g w' → (∀ i, i < l.length → s i = true) → Q .normal (frm a s (L g)) w') : (Code.region id l.toArray true).wp P Q a w := by
  refine wp_region_inv hm hB (fun s a' w' => ∃ g, a' = frm a s (L g) ∧ W s g w') ⟨g0, (frm_none _ _).symm, h0⟩ ?_ ?_
  · rintro s a' w' i o ⟨g, rfl, hW⟩ ho hs hp
    have := stepsOf_get l 0 step i o ho s g w' hW (by simpa using hs) (waits_of fun e he hb => hp e (by simpa using he) hb)
    simp only [Nat.zero_add] at this
    exact this
  · rintro s a' w' ⟨g, rfl, hW⟩ hall
    exact fin s g w' hW hall
end

/-- The worlds of a region with one 'alloc' of an array (operation ia) and one store of a whole array into it (operation ib). -/
def WA (W0 : World) (ia ib n : Nat) (T : TypeId) (f : Nat → Value) (s : Nat → Bool) (g : Nat) (w : World) : Prop :=
  Grew W0 w ∧ (s ia = true → W0.heap.size ≤ g ∧ ∃ f0, Blk w g n T f0) ∧ (s ib = true → s ia = true ∧ Blk w g n T f)
namespace WA
variable {W0 : World} {ia ib n : Nat} {T : TypeId} {f : Nat → Value} {s : Nat → Bool} {g : Nat} {w : World}
theorem keep (h : WA W0 ia ib n T f s g w) {i : Nat} (h1 : i ≠ ia) (h2 : i ≠ ib) : WA W0 ia ib n T f (upd s i true) g w := by
  unfold WA upd at *
  rw [if_neg (fun e => h1 e.symm), if_neg (fun e => h2 e.symm)]
  exact h
theorem call (h : WA W0 ia ib n T f s g w) {w' : World} (hb : Below w.heap.size w w') {i : Nat} (h1 : i ≠ ia) (h2 : i ≠ ib) : WA W0 ia ib n T f (upd s i true) g w' := by
  refine keep ⟨h.1.below.trans (hb.mono h.1.below.size), fun hs => ?_, fun hs => ?_⟩ h1 h2
  · obtain ⟨q1, f0, q2⟩ := h.2.1 hs
    exact ⟨q1, f0, q2.below hb q2.lt⟩
  · obtain ⟨q1, q2⟩ := h.2.2 hs
    exact ⟨q1, q2.below hb q2.lt⟩
theorem alloc (h : WA W0 ia ib n T f s g w) (hs : s ia = false) (hne : ib ≠ ia) (z : Nat → Value) : WA W0 ia ib n T f (upd s ia true) w.heap.size (w.alloc (.cells (row n z) T)) := by
  refine ⟨h.1.below.alloc h.1.below.size _, fun _ => ⟨h.1.below.size, z, Blk.new _ _ _ _⟩, fun h2 => ?_⟩
  have h3 : s ib = true := by simpa [upd, hne] using h2
  have := (h.2.2 h3).1
  rw [hs] at this; cases this
theorem store (h : WA W0 ia ib n T f s g w) (hs : s ia = true) (hne : ib ≠ ia) : WA W0 ia ib n T f (upd s ib true) g (w.setRow g (row n f)) := by
  obtain ⟨q1, f0, q2⟩ := h.2.1 hs
  refine ⟨below_setRow h.1.below q1 _, fun _ => ⟨q1, f, q2.setRow f⟩, fun _ => ⟨?_, q2.setRow f⟩⟩
  simp [upd, hs]
theorem init (h : ia ≠ ib) : WA W0 ia ib n T f (fun _ => false) 0 W0.drew := ⟨⟨rfl, rfl, rfl, Nat.le_refl _, fun _ _ => rfl⟩, (by intro h; cases h), (by intro h; cases h)⟩
end WA
end Go.Proofs.Ytbfhfadfjgfmaaa
