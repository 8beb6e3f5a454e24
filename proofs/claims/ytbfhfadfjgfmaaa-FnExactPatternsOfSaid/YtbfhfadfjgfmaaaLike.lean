/- AreLike, both sides. -/
import Derived.Test.YtbfhfadfjgfmaaaSlice1
import Derived.Test.YtbfhfadfjgfmaaaPairs
import Derived.Test.YtbfhfadfjgfmaaaTable3
import Derived.Test.YtbfhfadfjgfmaaaInvP
set_option linter.unusedVariables false
set_option linter.unusedSimpArgs false
set_option linter.unusedSectionVars false
namespace Go.Proofs.Ytbfhfadfjgfmaaa
open Go.RowKit
/-- Two dice as a pool. -/
def pX (a b : Nat → Int) : Nat → Nat → Int := fun i => if i = 0 then a else b
def eqB (n : Nat) (f g : Nat → Int) : Bool := (List.range' 0 n).all (fun i => f i == g i)
noncomputable def likeB (a b c d : Nat → Int) : Bool := eqB 121 (tabF (pX a b) 2) (tabF (pX c d) 2)
noncomputable def alikeB (a b c d : Nat → Int) : Bool := (goodB a b && goodB c d) && likeB a b c d
theorem pool_of_good {a b : Nat → Int} (h : goodB a b = true) : poolB 2 (pX a b) = true := by
  unfold poolB
  have h1 : dieB a = true ∧ dieB b = true := by unfold goodB at h; simp only [Bool.and_eq_true] at h; exact ⟨h.1, h.2.1⟩
  rw [(allB_iff (fun i => dieB (pX a b i)) 2).2 (fun i hi => by
    have : i = 0 ∨ i = 1 := by omega
    rcases this with rfl | rfl
    · exact h1.1
    · exact h1.2)]
  decide
theorem pool2_at {w : World} {g : Nat} {a b : Nat → Int} (h : Blk w g 12 53 (I (pairF a b))) : PoolAt w (some ⟨g, 0, none⟩) 2 (pX a b) :=
  PoolAt.ofBlk (n := 2) h (fun i hi j hj => by
    have : i = 0 ∨ i = 1 := by omega
    rcases this with rfl | rfl
    · simp [pairF, pX, hj]
    · simp only [pairF, pX]; rw [if_neg (by omega), if_neg (by omega), show 1 * 6 + j - 6 = j by omega])
section
variable {P : Program}
theorem part_int (w : World) (e : TypeId) (f : Nat → Int) (n i : Nat) (hi : i < n) (ha : ∀ w, (isAgg e).run P w = .ok false w) (hs : ∀ w, (sizeOf e).run P w = .ok 1 w) : (part e (row n (I f)) (i * 1)).run P w = .ok (.int .i64 (f i)) w := by
  have h4 : (row n (I f))[i]? = some (.int .i64 (f i)) := row_get hi
  simp [part, Sem.run_bind, ha, hs, h4]
theorem eq_loop (w : World) (d : Nat) (e : TypeId) (f g : Nat → Int) (n : Nat) (he : P.underlying e = some (.int .i64)) (ha : ∀ w, (isAgg e).run P w = .ok false w) (hs : ∀ w, (sizeOf e).run P w = .ok 1 w) : ∀ (l : List Nat), (∀ i ∈ l, i < n) →
    (forIn l ((none, ()) : Option Bool × Unit) (fun i r => do
      let a ← part e (row n (I f)) (i * 1)
      let b ← part e (row n (I g)) (i * 1)
      let q ← Op.equalIn (d + 1) e a b
      if (!q) = true then pure (ForInStep.done (some false, ())) else pure (ForInStep.yield (none, ()))) : Sem (Option Bool × Unit)).run P w = .ok (if l.all (fun i => f i == g i) then (none, ()) else (some false, ())) w := by
  intro l
  induction l with
  | nil => intro _; simp
  | cons i l ih =>
    intro hl
    have hi := hl i (by simp)
    have ih' := ih (fun k hk => hl k (by simp [hk]))
    simp only [List.forIn_cons, Sem.run_bind, part_int w e f n i hi ha hs, part_int w e g n i hi ha hs, Result.andThen_ok, run_equalIn_int w d e .i64 .i64 (f i) (g i) he, Sem.run_ite, Sem.run_pure]
    cases q : (f i == g i)
    · simp [q]
    · simp only [Bool.not_true, Bool.false_eq_true, if_false, Result.andThen_ok, List.all_cons, q, Bool.true_and]
      exact ih'
theorem run_equal_arr (w : World) (d n : Nat) (t e : TypeId) (f g : Nat → Int) (ht : P.underlying t = some (.array n e)) (he : P.underlying e = some (.int .i64)) (ha : ∀ w, (isAgg e).run P w = .ok false w) (hs : ∀ w, (sizeOf e).run P w = .ok 1 w) :
    (Op.equalIn (d + 1 + 1) t (.agg (row n (I f))) (.agg (row n (I g)))).run P w = .ok (eqB n f g) w := by
  rw [Op.equalIn]
  simp only [Sem.run_bind, run_underlying ht, Result.andThen_ok, hs]
  rw [Std.Legacy.Range.forIn_eq_forIn_range']
  simp only [Std.Legacy.Range.size, Nat.sub_zero, Nat.add_sub_cancel, Nat.div_one]
  rw [eq_loop w d e f g n he ha hs _ (fun i hi => by simpa using hi)]
  simp only [Result.andThen_ok, eqB]
  cases q : (List.range' 0 n).all (fun i => f i == g i) <;> simp
end
/-- The worlds of a region whose operations 1 and 4 make a pool each. -/
def WL (W0 : World) (x y : Nat → Nat → Int) (s : Nat → Bool) (g : Option Addr × Option Addr) (w : World) : Prop := Grew W0 w ∧ (s 1 = true → PoolAt w g.1 2 x) ∧ (s 4 = true → PoolAt w g.2 2 y)
namespace WL
variable {W0 w w' : World} {j : Nat} {x y : Nat → Nat → Int} {s : Nat → Bool} {g : Option Addr × Option Addr} {q : Option Addr}
theorem init : WL W0 x y (fun _ => false) (none, none) W0.drew := ⟨⟨rfl, rfl, rfl, Nat.le_refl _, fun _ _ => rfl⟩, (by intro h; cases h), by intro h; cases h⟩
theorem keep (h : WL W0 x y s g w) (h1 : j ≠ 1) (h4 : j ≠ 4) : WL W0 x y (upd s j true) g w := by
  unfold WL upd at *
  rw [if_neg (fun e => h1 e.symm), if_neg (fun e => h4 e.symm)]
  exact h
theorem call (h : WL W0 x y s g w) (hb : Below w.heap.size w w') (h1 : j ≠ 1) (h4 : j ≠ 4) : WL W0 x y (upd s j true) g w' :=
  keep ⟨h.1.below.trans (hb.mono h.1.below.size), fun hs => (h.2.1 hs).below hb, fun hs => (h.2.2 hs).below hb⟩ h1 h4
theorem made1 (h : WL W0 x y s g w) (hb : Below w.heap.size w w') (hp : PoolAt w' q 2 x) : WL W0 x y (upd s 1 true) (q, g.2) w' :=
  ⟨h.1.below.trans (hb.mono h.1.below.size), fun _ => hp, fun hs => (h.2.2 (by simpa [upd] using hs)).below hb⟩
theorem made4 (h : WL W0 x y s g w) (hb : Below w.heap.size w w') (hp : PoolAt w' q 2 y) : WL W0 x y (upd s 4 true) (g.1, q) w' :=
  ⟨h.1.below.trans (hb.mono h.1.below.size), fun hs => (h.2.1 (by simpa [upd] using hs)).below hb, fun _ => hp⟩
end WL
end Go.Proofs.Ytbfhfadfjgfmaaa
