/- AreLike, both sides. -/
import Derived.Test.YtiibpnhjdfjdkaaSlice1
import Derived.Test.YtiibpnhjdfjdkaaPair3
import Derived.Test.YtiibpnhjdfjdkaaTable3
import Derived.Test.YtiibpnhjdfjdkaaInvP
set_option linter.unusedVariables false
set_option linter.unusedSimpArgs false
set_option linter.unusedSectionVars false
namespace Go.Proofs.Ytiibpnhjdfjdkaa
open Go.RowKit
/-- Two dice as a pool. -/
def pX (a b : Nat → Int) : Nat → Nat → Int := fun i => if i = 0 then a else b
def eqB (n : Nat) (f g : Nat → Int) : Bool := (List.range' 0 n).all (fun i => f i == g i)
noncomputable def likeB (a b c d : Nat → Int) : Bool := eqB 121 (tabF (pX a b) 2) (tabF (pX c d) 2)
noncomputable def alikeB (a b c d : Nat → Int) : Bool := (goodB a b && goodB c d) && likeB a b c d
theorem pool_of_good {a b : Nat → Int} (h : goodB a b = true) : poolB 2 (pX a b) = true := by
  unfold poolB
  have h1 : dieB a = true ∧ dieB b = true := by unfold goodB at h; simp only [Bool.and_eq_true] at h; exact ⟨h.1, h.2.1⟩
  rw [(allB_iff (fun i => dieB (pX a b i)) 2).2 (fun i hi => by
    have : i = 0 ∨ i = 1 := by omega
    rcases this with rfl | rfl
    · exact h1.1
    · exact h1.2)]
  decide
theorem pool2_at {w : World} {g : Nat} {a b : Nat → Int} (h : Blk w g 12 22 (I (pairF a b))) : PoolAt w (some ⟨g, 0, none⟩) 2 (pX a b) :=
  PoolAt.ofBlk (n := 2) h (fun i hi j hj => by
    have : i = 0 ∨ i = 1 := by omega
    rcases this with rfl | rfl
    · simp [pairF, pX, hj]
    · simp only [pairF, pX]; rw [if_neg (by omega), if_neg (by omega), show 1 * 6 + j - 6 = j by omega])
section
variable {P : Program}
theorem part_int (w : World) (e : TypeId) (f : Nat → Int) (n i : Nat) (hi : i < n) (ha : ∀ w, (isAgg e).run P w = .ok false w) (hs : ∀ w, (sizeOf e).run P w = .ok 1 w) : (part e (row n (I f)) (i * 1)).run P w = .ok (.int .i64 (f i)) w := by
  have h4 : (row n (I f))[i]? = some (.int .i64 (f i)) := row_get hi
  simp [part, Sem.run_bind, ha, hs, h4]
theorem eq_loop (w : World) (d : Nat) (e : TypeId) (f g : Nat → Int) (n : Nat) (he : P.underlying e = some (.int .i64)) (ha : ∀ w, (isAgg e).run P w = .ok false w) (hs : ∀ w, (sizeOf e).run P w = .ok 1 w) : ∀ (l : List Nat), (∀ i ∈ l, i < n) →
    (forIn l ((none, ()) : Option Bool × Unit) (fun i r => do
      let a ← part e (row n (I f)) (i * 1)
      let b ← part e (row n (I g)) (i * 1)
      let q ← Op.equalIn (d + 1) e a b
      if (!q) = true then pure (ForInStep.done (some false, ())) else pure (ForInStep.yield (none, ()))) : Sem (Option Bool × Unit)).run P w = .ok (if l.all (fun i => f i == g i) then (none, ()) else (some false, ())) w := by
  intro l
  induction l with
  | nil => intro _; simp
  | cons i l ih =>
    intro hl
    have hi := hl i (by simp)
    have ih' := ih (fun k hk => hl k (by simp [hk]))
    simp only [List.forIn_cons, Sem.run_bind, part_int w e f n i hi ha hs, part_int w e g n i hi ha hs, Result.andThen_ok, run_equalIn_int w d e .i64 .i64 (f i) (g i) he, Sem.run_ite, Sem.run_pure]
    cases q : (f i == g i)
    · simp [q]
    · simp only [Bool.not_true, Bool.false_eq_true, if_false, Result.andThen_ok, List.all_cons, q, Bool.true_and]
      exact ih'
theorem run_equal_arr (w : World) (d n : Nat) (t e : TypeId) (f g : Nat → Int) (ht : P.underlying t = some (.array n e)) (he : P.underlying e = some (.int .i64)) (ha : ∀ w, (isAgg e).run P w = .ok false w) (hs : ∀ w, (sizeOf e).run P w = .ok 1 w) :
    (Op.equalIn (d + 1 + 1) t (.agg (row n (I f))) (.agg (row n (I g)))).run P w = .ok (eqB n f g) w := by
  rw [Op.equalIn]
  simp only [Sem.run_bind, run_underlying ht, Result.andThen_ok, hs]
  rw [Std.Legacy.Range.forIn_eq_forIn_range']
  simp only [Std.Legacy.Range.size, Nat.sub_zero, Nat.add_sub_cancel, Nat.div_one]
  rw [eq_loop w d e f g n he ha hs _ (fun i hi => by simpa using hi)]
  simp only [Result.andThen_ok, eqB]
  cases q : (List.range' 0 n).all (fun i => f i == g i) <;> simp
end
theorem run_eql121 (w : World) (p q : Operand) (f g : Nat → Int) : (do eqGuard .eql 65 p q (.agg (row 121 (I f))) (.agg (row 121 (I g))); binOp .eql 65 (.agg (row 121 (I f))) (.agg (row 121 (I g)))).run Try.prog w = .ok (.bool (eqB 121 f g)) w := by
  have h1 := run_equal_arr (P := Try.prog) w 9998 121 65 3 f g Try.underlying65 Try.underlying3 Try.isAgg3 (fun w => by kernel_rfl)
  rw [Sem.run_bind, run_eqGuard_agg (P := Try.prog) w .eql 65 p q _ _ (by kernel_rfl), Result.andThen_ok, run_eql_struct, h1]
  rfl
theorem wpList_eql121 {ops : Array Oper} {rest : List Oper} {o : Oper} {a : Act} {w : World} {Q : Exit → Act → World → Prop} (hw : Region.wanted o (yielded ops a.tmps) = true) {p q : Operand} {k : TypeId} (ho : o.op = .binOp .eql 65 p q k) {f g : Nat → Int}
    (hx : a.eval p = .agg (row 121 (I f))) (hy : a.eval q = .agg (row 121 (I g))) (h : wpList Try.prog ops Q rest (a.put o.dst (.bool (eqB 121 f g))) w) : wpList Try.prog ops Q (o :: rest) a w := by
  have hr := run_eql121 w p q f g
  unfold wpList
  rw [if_pos hw]
  left
  unfold Oper.wp execOp
  simp only [ho, hx, hy]
  simp only [Sem.run_bind] at hr ⊢
  rw [hr]
  exact h
theorem grown_eql121 {o : Oper} {a : Act} {w0 : World} {K : Act → Prop} {p q : Operand} {k : TypeId} (ho : o.op = .binOp .eql 65 p q k) {f g : Nat → Int} (hx : a.eval p = .agg (row 121 (I f))) (hy : a.eval q = .agg (row 121 (I g)))
    (hk : K (a.put o.dst (.bool (eqB 121 f g)))) : o.quiet Try.prog a (Grew w0) K := by
  refine ⟨_, fun w hw => ?_, hk⟩
  have hr := run_eql121 w p q f g
  unfold Oper.quietAt execOp
  simp only [ho, hx, hy]
  simp only [Sem.run_bind] at hr ⊢
  rw [hr]
  exact ⟨rfl, rfl⟩
set_option maxHeartbeats 1000000 in
theorem l5Ways_any (a b : Nat → Int) (h : poolB 2 (pX a b) = true) (w : World) : Calls Try.prog 59 #[dieV a, dieV b] w fun e w' => e = .returned (.agg (row 121 (I (tabF (pX a b) 2)))) ∧ Below w.heap.size w w' := by
  have G := Lib.hid h; clear h
  go_enter Try.func59, Try.ntmps59
  go_wp2_with (first | (refine wpList_alloc_blk rfl 65 rfl zero121 ?_) | (refine wpList_load_blk rfl 22 _ rfl (((Blk.new _ _ _ _).alloc _).alloc _) rfl Try.underlying22 sz6 ?_) | (refine wpList_load_blk rfl 22 _ rfl ((Blk.newS (b := w.heap.size + 1) (by simp)).alloc _) rfl Try.underlying22 sz6 ?_) | (((with_reducible apply wpList_buildSlice2_6); (case hw => rfl); (case ho => rfl); (case hx => rfl); (case hy => rfl))) | fail)
  go_at_call 65
  refine (l2Table_any _ 2 2 (pX a b) (by omega) G.out _ (pool2_at (Blk.newS (by simp)))).mono ?_
  rintro e w1 ⟨rfl, hb1⟩
  have R1 := Lib.hid (show Blk w1 (w.heap.size + 1 + 1) 121 65 (I fun _ => 0) from Blk.below ((Blk.newS (by simp)).alloc _) hb1 (by (focus (first | omega | (simp; done) | (simp; omega)))))
  have HB1 := Lib.hid (Below.trans (show Below w.heap.size w _ from (by (repeat (first | (with_reducible exact Below.refl _ _) | ((with_reducible refine below_setRow ?_ ?_ _); rotate_left; (focus (first | omega | (simp; done) | (simp; omega)))) | ((with_reducible refine Below.setCell ?_ ?_ _); rotate_left; (focus (first | omega | (simp; done) | (simp; omega)))) | ((with_reducible refine Below.alloc ?_ ?_ _); rotate_left; (focus (first | omega | (simp; done) | (simp; omega)))) | (with_reducible refine below_drewN ?_ _))))) (hb1.mono (by (focus (first | omega | (simp; done) | (simp; omega))))))
  clear hb1
  go_wp2_with (first | (refine wpList_store_blk rfl 65 _ _ rfl (R1.out) rfl rfl sz121 (fun _ _ => rfl) ?_) | fail)
  exact post_blk rfl (R1.out.setRow _) rfl Try.underlying65 sz121 rfl ⟨rfl, below_setRow HB1.out (by (focus (first | omega | (simp; done) | (simp; omega)))) _⟩
theorem pool_any (a b : Nat → Int) (w : World) : Calls Try.prog 63 #[pairV a b] w fun e w' => ∃ o, e = .returned (poolV o 2 2) ∧ PoolAt w' o 2 (pX a b) ∧ Below w.heap.size w w' := by
  go_enter Try.func63, Try.ntmps63
  go_wp2_with (first | (refine wpList_load_part rfl 22 _ rfl (Blk.new _ _ _ _) rfl (Nat.le_of_ble_eq_true rfl) Try.isAgg22 sz6 (pairA a b) ?_) | (refine wpList_load_part rfl 22 _ rfl (Blk.new _ _ _ _) rfl (Nat.le_of_ble_eq_true rfl) Try.isAgg22 sz6 (pairB a b) ?_) | (((with_reducible apply wpList_buildSlice2_6); (case hw => rfl); (case ho => rfl); (case hx => rfl); (case hy => rfl))) | fail)
  go_ret
  exact ⟨_, rfl, pool2_at (Blk.newS (by simp)), ((Below.refl _ _).alloc (Nat.le_refl _) _).alloc (by simp) _⟩
/-- The worlds of a region whose operations 1 and 4 make a pool each. -/
def WL (W0 : World) (x y : Nat → Nat → Int) (s : Nat → Bool) (g : Option Addr × Option Addr) (w : World) : Prop := Grew W0 w ∧ (s 1 = true → PoolAt w g.1 2 x) ∧ (s 4 = true → PoolAt w g.2 2 y)
namespace WL
variable {W0 w w' : World} {j : Nat} {x y : Nat → Nat → Int} {s : Nat → Bool} {g : Option Addr × Option Addr} {q : Option Addr}
theorem init : WL W0 x y (fun _ => false) (none, none) W0.drew := ⟨⟨rfl, rfl, rfl, Nat.le_refl _, fun _ _ => rfl⟩, (by intro h; cases h), by intro h; cases h⟩
theorem keep (h : WL W0 x y s g w) (h1 : j ≠ 1) (h4 : j ≠ 4) : WL W0 x y (upd s j true) g w := by
  unfold WL upd at *
  rw [if_neg (fun e => h1 e.symm), if_neg (fun e => h4 e.symm)]
  exact h
theorem call (h : WL W0 x y s g w) (hb : Below w.heap.size w w') (h1 : j ≠ 1) (h4 : j ≠ 4) : WL W0 x y (upd s j true) g w' :=
  keep ⟨h.1.below.trans (hb.mono h.1.below.size), fun hs => (h.2.1 hs).below hb, fun hs => (h.2.2 hs).below hb⟩ h1 h4
theorem made1 (h : WL W0 x y s g w) (hb : Below w.heap.size w w') (hp : PoolAt w' q 2 x) : WL W0 x y (upd s 1 true) (q, g.2) w' :=
  ⟨h.1.below.trans (hb.mono h.1.below.size), fun _ => hp, fun hs => (h.2.2 (by simpa [upd] using hs)).below hb⟩
theorem made4 (h : WL W0 x y s g w) (hb : Below w.heap.size w w') (hp : PoolAt w' q 2 y) : WL W0 x y (upd s 4 true) (g.1, q) w' :=
  ⟨h.1.below.trans (hb.mono h.1.below.size), fun hs => (h.2.1 (by simpa [upd] using hs)).below hb, fun _ => hp⟩
end WL
set_option maxRecDepth 100000 in
set_option maxHeartbeats 2000000 in
theorem sAreLike_any (a b c d : Nat → Int) (w : World) : Calls Try.prog 16 #[pairV a b, pairV c d] w fun e w' => e = .returned (.tuple #[.bool (alikeB a b c d), .bool (goodB a b && goodB c d)]) ∧ Below w.heap.size w w' := by
  cases g1 : goodB a b
  · have HV := Lib.hid (show alikeB a b c d = false by unfold alikeB; rw [g1]; rfl)
    rw [HV.out]
    go_enter Try.func16, Try.ntmps16
    go_wp2_with (first | (refine wpList_load_part rfl 27 _ rfl ((Blk.new _ _ _ _).alloc _) rfl (Nat.le_of_ble_eq_true rfl) Try.isAgg27 szP (fun i _ => congrArg _ (Nat.zero_add i)) ?_) | fail)
    go_at_call 58
    refine (l5Good_any a b _).mono ?_
    rintro e w1 ⟨rfl, hb1⟩
    have HB1 := Lib.hid hb1; clear hb1
    have A1 := Lib.hid (show Blk w1 w.heap.size 12 27 (I (pairF a b)) from Blk.below (by (repeat (first | (with_reducible exact Blk.new _ _ _ _) | ((with_reducible refine Blk.newS ?_); (focus (first | rfl | (simp; done)))) | ((with_reducible refine Blk.setRowNew ?_); (focus (first | rfl | (simp; done)))) | ((with_reducible refine Blk.setRowOther ?_ _ _ ?_); rotate_left; (focus (first | omega | (simp; done) | (simp; omega)))) | ((with_reducible refine Blk.other ?_ _ _ ?_); rotate_left; (focus (first | omega | (simp; done) | (simp; omega)))) | (with_reducible refine Blk.alloc ?_ _) | (with_reducible refine Blk.drewN ?_ _)))) HB1.out (by (focus (first | omega | (simp; done) | (simp; omega)))))
    have B1 := Lib.hid (show Blk w1 (w.heap.size + 1) 12 27 (I (pairF c d)) from Blk.below (Blk.newS (by simp)) HB1.out (by (focus (first | omega | (simp; done) | (simp; omega)))))
    have HB1 := Lib.hid (Below.trans (show Below w.heap.size w _ from (by (repeat (first | (with_reducible exact Below.refl _ _) | ((with_reducible refine below_setRow ?_ ?_ _); rotate_left; (focus (first | omega | (simp; done) | (simp; omega)))) | ((with_reducible refine Below.setCell ?_ ?_ _); rotate_left; (focus (first | omega | (simp; done) | (simp; omega)))) | ((with_reducible refine Below.alloc ?_ ?_ _); rotate_left; (focus (first | omega | (simp; done) | (simp; omega)))) | (with_reducible refine below_drewN ?_ _))))) (HB1.out.mono (by (focus (first | omega | (simp; done) | (simp; omega))))))
    rw [g1]
    go_wp2
    go_ret2
    exact ⟨rfl, HB1.out⟩
  · cases g2 : goodB c d
    · have HV := Lib.hid (show alikeB a b c d = false by unfold alikeB; rw [g1, g2]; rfl)
      rw [HV.out]
      go_enter Try.func16, Try.ntmps16
      go_wp2_with (first | (refine wpList_load_part rfl 27 _ rfl ((Blk.new _ _ _ _).alloc _) rfl (Nat.le_of_ble_eq_true rfl) Try.isAgg27 szP (fun i _ => congrArg _ (Nat.zero_add i)) ?_) | fail)
      go_at_call 58
      refine (l5Good_any a b _).mono ?_
      rintro e w1 ⟨rfl, hb1⟩
      have HB1 := Lib.hid hb1; clear hb1
      have A1 := Lib.hid (show Blk w1 w.heap.size 12 27 (I (pairF a b)) from Blk.below (by (repeat (first | (with_reducible exact Blk.new _ _ _ _) | ((with_reducible refine Blk.newS ?_); (focus (first | rfl | (simp; done)))) | ((with_reducible refine Blk.setRowNew ?_); (focus (first | rfl | (simp; done)))) | ((with_reducible refine Blk.setRowOther ?_ _ _ ?_); rotate_left; (focus (first | omega | (simp; done) | (simp; omega)))) | ((with_reducible refine Blk.other ?_ _ _ ?_); rotate_left; (focus (first | omega | (simp; done) | (simp; omega)))) | (with_reducible refine Blk.alloc ?_ _) | (with_reducible refine Blk.drewN ?_ _)))) HB1.out (by (focus (first | omega | (simp; done) | (simp; omega)))))
      have B1 := Lib.hid (show Blk w1 (w.heap.size + 1) 12 27 (I (pairF c d)) from Blk.below (Blk.newS (by simp)) HB1.out (by (focus (first | omega | (simp; done) | (simp; omega)))))
      have HB1 := Lib.hid (Below.trans (show Below w.heap.size w _ from (by (repeat (first | (with_reducible exact Below.refl _ _) | ((with_reducible refine below_setRow ?_ ?_ _); rotate_left; (focus (first | omega | (simp; done) | (simp; omega)))) | ((with_reducible refine Below.setCell ?_ ?_ _); rotate_left; (focus (first | omega | (simp; done) | (simp; omega)))) | ((with_reducible refine Below.alloc ?_ ?_ _); rotate_left; (focus (first | omega | (simp; done) | (simp; omega)))) | (with_reducible refine below_drewN ?_ _))))) (HB1.out.mono (by (focus (first | omega | (simp; done) | (simp; omega))))))
      rw [g1]
      go_wp2_with (first | (refine wpList_load_part rfl 27 _ rfl (B1.out) rfl (Nat.le_of_ble_eq_true rfl) Try.isAgg27 szP (fun i _ => congrArg _ (Nat.zero_add i)) ?_) | fail)
      go_at_call 58
      refine (l5Good_any c d _).mono ?_
      rintro e w2 ⟨rfl, hb2⟩
      have A2 := Lib.hid (A1.out.below hb2 A1.out.lt)
      have B2 := Lib.hid (B1.out.below hb2 B1.out.lt)
      have HB2 := Lib.hid (HB1.out.trans (hb2.mono HB1.out.size)); clear hb2
      rw [g2]
      go_wp2
      go_ret2
      exact ⟨rfl, HB2.out⟩
    · have HV := Lib.hid (show alikeB a b c d = eqB 121 (tabF (pX a b) 2) (tabF (pX c d) 2) by unfold alikeB; rw [g1, g2]; rfl)
      rw [HV.out]
      have G1 := Lib.hid (pool_of_good g1)
      have G2 := Lib.hid (pool_of_good g2)
      go_enter Try.func16, Try.ntmps16
      go_wp2_with (first | (refine wpList_load_part rfl 27 _ rfl ((Blk.new _ _ _ _).alloc _) rfl (Nat.le_of_ble_eq_true rfl) Try.isAgg27 szP (fun i _ => congrArg _ (Nat.zero_add i)) ?_) | fail)
      go_at_call 58
      refine (l5Good_any a b _).mono ?_
      rintro e w1 ⟨rfl, hb1⟩
      have HB1 := Lib.hid hb1; clear hb1
      have A1 := Lib.hid (show Blk w1 w.heap.size 12 27 (I (pairF a b)) from Blk.below (by (repeat (first | (with_reducible exact Blk.new _ _ _ _) | ((with_reducible refine Blk.newS ?_); (focus (first | rfl | (simp; done)))) | ((with_reducible refine Blk.setRowNew ?_); (focus (first | rfl | (simp; done)))) | ((with_reducible refine Blk.setRowOther ?_ _ _ ?_); rotate_left; (focus (first | omega | (simp; done) | (simp; omega)))) | ((with_reducible refine Blk.other ?_ _ _ ?_); rotate_left; (focus (first | omega | (simp; done) | (simp; omega)))) | (with_reducible refine Blk.alloc ?_ _) | (with_reducible refine Blk.drewN ?_ _)))) HB1.out (by (focus (first | omega | (simp; done) | (simp; omega)))))
      have B1 := Lib.hid (show Blk w1 (w.heap.size + 1) 12 27 (I (pairF c d)) from Blk.below (Blk.newS (by simp)) HB1.out (by (focus (first | omega | (simp; done) | (simp; omega)))))
      have HB1 := Lib.hid (Below.trans (show Below w.heap.size w _ from (by (repeat (first | (with_reducible exact Below.refl _ _) | ((with_reducible refine below_setRow ?_ ?_ _); rotate_left; (focus (first | omega | (simp; done) | (simp; omega)))) | ((with_reducible refine Below.setCell ?_ ?_ _); rotate_left; (focus (first | omega | (simp; done) | (simp; omega)))) | ((with_reducible refine Below.alloc ?_ ?_ _); rotate_left; (focus (first | omega | (simp; done) | (simp; omega)))) | (with_reducible refine below_drewN ?_ _))))) (HB1.out.mono (by (focus (first | omega | (simp; done) | (simp; omega))))))
      rw [g1]
      go_wp2_with (first | (refine wpList_load_part rfl 27 _ rfl (B1.out) rfl (Nat.le_of_ble_eq_true rfl) Try.isAgg27 szP (fun i _ => congrArg _ (Nat.zero_add i)) ?_) | fail)
      go_at_call 58
      refine (l5Good_any c d _).mono ?_
      rintro e w2 ⟨rfl, hb2⟩
      have A2 := Lib.hid (A1.out.below hb2 A1.out.lt)
      have B2 := Lib.hid (B1.out.below hb2 B1.out.lt)
      have HB2 := Lib.hid (HB1.out.trans (hb2.mono HB1.out.size)); clear hb2
      rw [g2]
      clear g1 g2
      go_wp2
      refine wp_region_grown_lit (by kernel_rfl) (by kernel_rfl) ?_
      repeat (first | go_big_quiet_skip | (go_big_quiet_want; (first | (refine grown_load_part 22 _ rfl (A2.out) rfl (Nat.le_of_ble_eq_true rfl) Try.isAgg22 sz6 (pairA a b) ?_; simp only [Act.put, List.setIfInBounds_toArray, List.set_cons_succ, List.set_cons_zero]; go_big_quiet_on) | (refine grown_load_part 22 _ rfl (A2.out) rfl (Nat.le_of_ble_eq_true rfl) Try.isAgg22 sz6 (pairB a b) ?_; simp only [Act.put, List.setIfInBounds_toArray, List.set_cons_succ, List.set_cons_zero]; go_big_quiet_on) | (refine grown_load_part 22 _ rfl (B2.out) rfl (Nat.le_of_ble_eq_true rfl) Try.isAgg22 sz6 (pairA c d) ?_; simp only [Act.put, List.setIfInBounds_toArray, List.set_cons_succ, List.set_cons_zero]; go_big_quiet_on) | (refine grown_load_part 22 _ rfl (B2.out) rfl (Nat.le_of_ble_eq_true rfl) Try.isAgg22 sz6 (pairB c d) ?_; simp only [Act.put, List.setIfInBounds_toArray, List.set_cons_succ, List.set_cons_zero]; go_big_quiet_on) | (refine grown_eql121 rfl rfl rfl ?_; simp only [Act.put, List.setIfInBounds_toArray, List.set_cons_succ, List.set_cons_zero]; go_big_quiet_on) | (go_big_quiet_op; (first | go_big_quiet_on | (refine ⟨_, fun _ _ => rfl, ?_⟩; go_big_quiet_on) | (apply Exists.intro; refine ⟨fun _ hC => ?_, ?_⟩; (first | (go_at_call 59; with_reducible exact grown_of hC (l5Ways_any a b G1.out _)) | (go_at_call 59; with_reducible exact grown_of hC (l5Ways_any c d G2.out _))); go_big_quiet_on))))))
      refine wpQuiet_nil ?_
      intro wg hg
      have HB3 := Lib.hid (HB2.out.trans (hg.below.mono HB2.out.size))
      clear hg
      go_wp2
      go_ret2
      exact ⟨rfl, HB3.out⟩
set_option maxRecDepth 100000 in
set_option maxHeartbeats 2000000 in
theorem iAreLike_any (a b c d : Nat → Int) (w : World) : Calls Try.prog 18 #[pairV a b, pairV c d] w fun e w' => e = .returned (.tuple #[.bool (alikeB a b c d), .bool (goodB a b && goodB c d)]) ∧ Below w.heap.size w w' := by
  cases g1 : goodB a b
  · have HV := Lib.hid (show alikeB a b c d = false by unfold alikeB; rw [g1]; rfl)
    rw [HV.out]
    go_enter Try.func18, Try.ntmps18
    go_wp2_with (first | (refine wpList_load_part rfl 27 _ rfl ((Blk.new _ _ _ _).alloc _) rfl (Nat.le_of_ble_eq_true rfl) Try.isAgg27 szP (fun i _ => congrArg _ (Nat.zero_add i)) ?_) | fail)
    go_at_call 61
    refine (isPair_any a b _).mono ?_
    rintro e w1 ⟨rfl, hb1⟩
    have HB1 := Lib.hid hb1; clear hb1
    have A1 := Lib.hid (show Blk w1 w.heap.size 12 27 (I (pairF a b)) from Blk.below (by (repeat (first | (with_reducible exact Blk.new _ _ _ _) | ((with_reducible refine Blk.newS ?_); (focus (first | rfl | (simp; done)))) | ((with_reducible refine Blk.setRowNew ?_); (focus (first | rfl | (simp; done)))) | ((with_reducible refine Blk.setRowOther ?_ _ _ ?_); rotate_left; (focus (first | omega | (simp; done) | (simp; omega)))) | ((with_reducible refine Blk.other ?_ _ _ ?_); rotate_left; (focus (first | omega | (simp; done) | (simp; omega)))) | (with_reducible refine Blk.alloc ?_ _) | (with_reducible refine Blk.drewN ?_ _)))) HB1.out (by (focus (first | omega | (simp; done) | (simp; omega)))))
    have B1 := Lib.hid (show Blk w1 (w.heap.size + 1) 12 27 (I (pairF c d)) from Blk.below (Blk.newS (by simp)) HB1.out (by (focus (first | omega | (simp; done) | (simp; omega)))))
    have HB1 := Lib.hid (Below.trans (show Below w.heap.size w _ from (by (repeat (first | (with_reducible exact Below.refl _ _) | ((with_reducible refine below_setRow ?_ ?_ _); rotate_left; (focus (first | omega | (simp; done) | (simp; omega)))) | ((with_reducible refine Below.setCell ?_ ?_ _); rotate_left; (focus (first | omega | (simp; done) | (simp; omega)))) | ((with_reducible refine Below.alloc ?_ ?_ _); rotate_left; (focus (first | omega | (simp; done) | (simp; omega)))) | (with_reducible refine below_drewN ?_ _))))) (HB1.out.mono (by (focus (first | omega | (simp; done) | (simp; omega))))))
    rw [g1]
    go_wp2
    go_ret2
    exact ⟨rfl, HB1.out⟩
  · cases g2 : goodB c d
    · have HV := Lib.hid (show alikeB a b c d = false by unfold alikeB; rw [g1, g2]; rfl)
      rw [HV.out]
      go_enter Try.func18, Try.ntmps18
      go_wp2_with (first | (refine wpList_load_part rfl 27 _ rfl ((Blk.new _ _ _ _).alloc _) rfl (Nat.le_of_ble_eq_true rfl) Try.isAgg27 szP (fun i _ => congrArg _ (Nat.zero_add i)) ?_) | fail)
      go_at_call 61
      refine (isPair_any a b _).mono ?_
      rintro e w1 ⟨rfl, hb1⟩
      have HB1 := Lib.hid hb1; clear hb1
      have A1 := Lib.hid (show Blk w1 w.heap.size 12 27 (I (pairF a b)) from Blk.below (by (repeat (first | (with_reducible exact Blk.new _ _ _ _) | ((with_reducible refine Blk.newS ?_); (focus (first | rfl | (simp; done)))) | ((with_reducible refine Blk.setRowNew ?_); (focus (first | rfl | (simp; done)))) | ((with_reducible refine Blk.setRowOther ?_ _ _ ?_); rotate_left; (focus (first | omega | (simp; done) | (simp; omega)))) | ((with_reducible refine Blk.other ?_ _ _ ?_); rotate_left; (focus (first | omega | (simp; done) | (simp; omega)))) | (with_reducible refine Blk.alloc ?_ _) | (with_reducible refine Blk.drewN ?_ _)))) HB1.out (by (focus (first | omega | (simp; done) | (simp; omega)))))
      have B1 := Lib.hid (show Blk w1 (w.heap.size + 1) 12 27 (I (pairF c d)) from Blk.below (Blk.newS (by simp)) HB1.out (by (focus (first | omega | (simp; done) | (simp; omega)))))
      have HB1 := Lib.hid (Below.trans (show Below w.heap.size w _ from (by (repeat (first | (with_reducible exact Below.refl _ _) | ((with_reducible refine below_setRow ?_ ?_ _); rotate_left; (focus (first | omega | (simp; done) | (simp; omega)))) | ((with_reducible refine Below.setCell ?_ ?_ _); rotate_left; (focus (first | omega | (simp; done) | (simp; omega)))) | ((with_reducible refine Below.alloc ?_ ?_ _); rotate_left; (focus (first | omega | (simp; done) | (simp; omega)))) | (with_reducible refine below_drewN ?_ _))))) (HB1.out.mono (by (focus (first | omega | (simp; done) | (simp; omega))))))
      rw [g1]
      go_wp2_with (first | (refine wpList_load_part rfl 27 _ rfl (B1.out) rfl (Nat.le_of_ble_eq_true rfl) Try.isAgg27 szP (fun i _ => congrArg _ (Nat.zero_add i)) ?_) | fail)
      go_at_call 61
      refine (isPair_any c d _).mono ?_
      rintro e w2 ⟨rfl, hb2⟩
      have A2 := Lib.hid (A1.out.below hb2 A1.out.lt)
      have B2 := Lib.hid (B1.out.below hb2 B1.out.lt)
      have HB2 := Lib.hid (HB1.out.trans (hb2.mono HB1.out.size)); clear hb2
      rw [g2]
      go_wp2
      go_ret2
      exact ⟨rfl, HB2.out⟩
    · have HV := Lib.hid (show alikeB a b c d = eqB 121 (tabF (pX a b) 2) (tabF (pX c d) 2) by unfold alikeB; rw [g1, g2]; rfl)
      rw [HV.out]
      have G1 := Lib.hid (pool_of_good g1)
      have G2 := Lib.hid (pool_of_good g2)
      go_enter Try.func18, Try.ntmps18
      go_wp2_with (first | (refine wpList_load_part rfl 27 _ rfl ((Blk.new _ _ _ _).alloc _) rfl (Nat.le_of_ble_eq_true rfl) Try.isAgg27 szP (fun i _ => congrArg _ (Nat.zero_add i)) ?_) | fail)
      go_at_call 61
      refine (isPair_any a b _).mono ?_
      rintro e w1 ⟨rfl, hb1⟩
      have HB1 := Lib.hid hb1; clear hb1
      have A1 := Lib.hid (show Blk w1 w.heap.size 12 27 (I (pairF a b)) from Blk.below (by (repeat (first | (with_reducible exact Blk.new _ _ _ _) | ((with_reducible refine Blk.newS ?_); (focus (first | rfl | (simp; done)))) | ((with_reducible refine Blk.setRowNew ?_); (focus (first | rfl | (simp; done)))) | ((with_reducible refine Blk.setRowOther ?_ _ _ ?_); rotate_left; (focus (first | omega | (simp; done) | (simp; omega)))) | ((with_reducible refine Blk.other ?_ _ _ ?_); rotate_left; (focus (first | omega | (simp; done) | (simp; omega)))) | (with_reducible refine Blk.alloc ?_ _) | (with_reducible refine Blk.drewN ?_ _)))) HB1.out (by (focus (first | omega | (simp; done) | (simp; omega)))))
      have B1 := Lib.hid (show Blk w1 (w.heap.size + 1) 12 27 (I (pairF c d)) from Blk.below (Blk.newS (by simp)) HB1.out (by (focus (first | omega | (simp; done) | (simp; omega)))))
      have HB1 := Lib.hid (Below.trans (show Below w.heap.size w _ from (by (repeat (first | (with_reducible exact Below.refl _ _) | ((with_reducible refine below_setRow ?_ ?_ _); rotate_left; (focus (first | omega | (simp; done) | (simp; omega)))) | ((with_reducible refine Below.setCell ?_ ?_ _); rotate_left; (focus (first | omega | (simp; done) | (simp; omega)))) | ((with_reducible refine Below.alloc ?_ ?_ _); rotate_left; (focus (first | omega | (simp; done) | (simp; omega)))) | (with_reducible refine below_drewN ?_ _))))) (HB1.out.mono (by (focus (first | omega | (simp; done) | (simp; omega))))))
      rw [g1]
      go_wp2_with (first | (refine wpList_load_part rfl 27 _ rfl (B1.out) rfl (Nat.le_of_ble_eq_true rfl) Try.isAgg27 szP (fun i _ => congrArg _ (Nat.zero_add i)) ?_) | fail)
      go_at_call 61
      refine (isPair_any c d _).mono ?_
      rintro e w2 ⟨rfl, hb2⟩
      have A2 := Lib.hid (A1.out.below hb2 A1.out.lt)
      have B2 := Lib.hid (B1.out.below hb2 B1.out.lt)
      have HB2 := Lib.hid (HB1.out.trans (hb2.mono HB1.out.size)); clear hb2
      rw [g2]
      clear g1 g2
      go_wp2
      refine wp_region_steps (by kernel_rfl) (by kernel_rfl) (fun g : Option Addr × Option Addr => [(0, 14, pairV a b), (1, 15, poolV g.1 2 2), (2, 16, .agg (row 121 (I (tabF (pX a b) 2)))), (3, 17, pairV c d), (4, 18, poolV g.2 2 2), (5, 19, .agg (row 121 (I (tabF (pX c d) 2)))), (6, 20, .bool (eqB 121 (tabF (pX a b) 2) (tabF (pX c d) 2))), (7, 4, .bool (eqB 121 (tabF (pX a b) 2) (tabF (pX c d) 2))), (8, 5, .bool true)]) (WL _ (pX a b) (pX c d)) (none, none) WL.init ?_ ?_
      · refine (And.intro (fun s g wv hW hs hp => ?_) (And.intro (fun s g wv hW hs hp => ?_) (And.intro (fun s g wv hW hs hp => ?_) (And.intro (fun s g wv hW hs hp => ?_) (And.intro (fun s g wv hW hs hp => ?_) (And.intro (fun s g wv hW hs hp => ?_) (And.intro (fun s g wv hW hs hp => ?_) (And.intro (fun s g wv hW hs hp => ?_) (And.intro (fun s g wv hW hs hp => ?_) True.intro)))))))))
        · (try simp [waits, Region.binds, hs] at hp); (first | simp only [frm, List.foldl, Act.put, List.setIfInBounds_toArray, List.set_cons_succ, List.set_cons_zero, hs, hp, cond_true, cond_false] | simp only [frm, List.foldl, Act.put, List.setIfInBounds_toArray, List.set_cons_succ, List.set_cons_zero, hs, cond_true, cond_false]); have HW := Lib.hid hW; clear hW; refine wpList_load_part rfl 27 _ rfl (A2.out.below HW.out.1 A2.out.lt) rfl (Nat.le_of_ble_eq_true rfl) Try.isAgg27 szP (fun i _ => congrArg _ (Nat.zero_add i)) ?_; go_wp2; refine ⟨g, by (first | simp [frm, Act.put, upd, hs, hp] | simp [frm, Act.put, upd, hs]), HW.out.keep (by decide) (by decide)⟩
        · (try simp [waits, Region.binds, hs] at hp); (first | simp only [frm, List.foldl, Act.put, List.setIfInBounds_toArray, List.set_cons_succ, List.set_cons_zero, hs, hp, cond_true, cond_false] | simp only [frm, List.foldl, Act.put, List.setIfInBounds_toArray, List.set_cons_succ, List.set_cons_zero, hs, cond_true, cond_false]); have HW := Lib.hid hW; clear hW; go_wp2_with fail; go_at_call 63; refine (pool_any a b _).mono ?_; rintro e' w2 ⟨o2, rfl, hp2, hb2⟩; have HP2 := Lib.hid hp2; have HB2 := Lib.hid hb2; clear hp2 hb2; go_wp2; refine ⟨(o2, g.2), by (first | simp [frm, Act.put, upd, hs, hp] | simp [frm, Act.put, upd, hs]), HW.out.made1 HB2.out HP2.out⟩
        · (try simp [waits, Region.binds, hs] at hp); (first | simp only [frm, List.foldl, Act.put, List.setIfInBounds_toArray, List.set_cons_succ, List.set_cons_zero, hs, hp, cond_true, cond_false] | simp only [frm, List.foldl, Act.put, List.setIfInBounds_toArray, List.set_cons_succ, List.set_cons_zero, hs, cond_true, cond_false]); have HW := Lib.hid hW; clear hW; go_wp2_with fail; go_at_call 62; refine (sums_any g.1 2 2 (pX a b) (by omega) G1.out _ (HW.out.2.1 (by simp [hp]))).mono ?_; rintro e' w2 ⟨rfl, hb2⟩; have HB2 := Lib.hid hb2; clear hb2; go_wp2; refine ⟨g, by (first | simp [frm, Act.put, upd, hs, hp] | simp [frm, Act.put, upd, hs]), HW.out.call HB2.out (by decide) (by decide)⟩
        · (try simp [waits, Region.binds, hs] at hp); (first | simp only [frm, List.foldl, Act.put, List.setIfInBounds_toArray, List.set_cons_succ, List.set_cons_zero, hs, hp, cond_true, cond_false] | simp only [frm, List.foldl, Act.put, List.setIfInBounds_toArray, List.set_cons_succ, List.set_cons_zero, hs, cond_true, cond_false]); have HW := Lib.hid hW; clear hW; refine wpList_load_part rfl 27 _ rfl (B2.out.below HW.out.1 B2.out.lt) rfl (Nat.le_of_ble_eq_true rfl) Try.isAgg27 szP (fun i _ => congrArg _ (Nat.zero_add i)) ?_; go_wp2; refine ⟨g, by (first | simp [frm, Act.put, upd, hs, hp] | simp [frm, Act.put, upd, hs]), HW.out.keep (by decide) (by decide)⟩
        · (try simp [waits, Region.binds, hs] at hp); (first | simp only [frm, List.foldl, Act.put, List.setIfInBounds_toArray, List.set_cons_succ, List.set_cons_zero, hs, hp, cond_true, cond_false] | simp only [frm, List.foldl, Act.put, List.setIfInBounds_toArray, List.set_cons_succ, List.set_cons_zero, hs, cond_true, cond_false]); have HW := Lib.hid hW; clear hW; go_wp2_with fail; go_at_call 63; refine (pool_any c d _).mono ?_; rintro e' w2 ⟨o2, rfl, hp2, hb2⟩; have HP2 := Lib.hid hp2; have HB2 := Lib.hid hb2; clear hp2 hb2; go_wp2; refine ⟨(g.1, o2), by (first | simp [frm, Act.put, upd, hs, hp] | simp [frm, Act.put, upd, hs]), HW.out.made4 HB2.out HP2.out⟩
        · (try simp [waits, Region.binds, hs] at hp); (first | simp only [frm, List.foldl, Act.put, List.setIfInBounds_toArray, List.set_cons_succ, List.set_cons_zero, hs, hp, cond_true, cond_false] | simp only [frm, List.foldl, Act.put, List.setIfInBounds_toArray, List.set_cons_succ, List.set_cons_zero, hs, cond_true, cond_false]); have HW := Lib.hid hW; clear hW; go_wp2_with fail; go_at_call 62; refine (sums_any g.2 2 2 (pX c d) (by omega) G2.out _ (HW.out.2.2 (by simp [hp]))).mono ?_; rintro e' w2 ⟨rfl, hb2⟩; have HB2 := Lib.hid hb2; clear hb2; go_wp2; refine ⟨g, by (first | simp [frm, Act.put, upd, hs, hp] | simp [frm, Act.put, upd, hs]), HW.out.call HB2.out (by decide) (by decide)⟩
        · (try simp [waits, Region.binds, hs] at hp); (first | simp only [frm, List.foldl, Act.put, List.setIfInBounds_toArray, List.set_cons_succ, List.set_cons_zero, hs, hp, cond_true, cond_false] | simp only [frm, List.foldl, Act.put, List.setIfInBounds_toArray, List.set_cons_succ, List.set_cons_zero, hs, cond_true, cond_false]); have HW := Lib.hid hW; clear hW; ((with_reducible apply wpList_eql121); (case hw => rfl); (case ho => rfl); (case hx => rfl); (case hy => rfl)); go_wp2; refine ⟨g, by (first | simp [frm, Act.put, upd, hs, hp] | simp [frm, Act.put, upd, hs]), HW.out.keep (by decide) (by decide)⟩
        · (try simp [waits, Region.binds, hs] at hp); (first | simp only [frm, List.foldl, Act.put, List.setIfInBounds_toArray, List.set_cons_succ, List.set_cons_zero, hs, hp, cond_true, cond_false] | simp only [frm, List.foldl, Act.put, List.setIfInBounds_toArray, List.set_cons_succ, List.set_cons_zero, hs, cond_true, cond_false]); have HW := Lib.hid hW; clear hW; go_wp2; refine ⟨g, by (first | simp [frm, Act.put, upd, hs, hp] | simp [frm, Act.put, upd, hs]), HW.out.keep (by decide) (by decide)⟩
        · (try simp [waits, Region.binds, hs] at hp); (first | simp only [frm, List.foldl, Act.put, List.setIfInBounds_toArray, List.set_cons_succ, List.set_cons_zero, hs, hp, cond_true, cond_false] | simp only [frm, List.foldl, Act.put, List.setIfInBounds_toArray, List.set_cons_succ, List.set_cons_zero, hs, cond_true, cond_false]); have HW := Lib.hid hW; clear hW; go_wp2; refine ⟨g, by (first | simp [frm, Act.put, upd, hs, hp] | simp [frm, Act.put, upd, hs]), HW.out.keep (by decide) (by decide)⟩
      · intro s g wg hW hall
        have hs := fun i (hi : i < 9) => hall i (by simpa using hi)
        have HG := Lib.hid hW.1
        simp only [frm, List.foldl, Act.put, List.setIfInBounds_toArray, List.set_cons_succ, List.set_cons_zero, hs 0 (by omega), hs 1 (by omega), hs 2 (by omega), hs 3 (by omega), hs 4 (by omega), hs 5 (by omega), hs 6 (by omega), hs 7 (by omega), hs 8 (by omega), cond_true]
        have HB3 := Lib.hid (HB2.out.trans (HG.out.below.mono HB2.out.size))
        clear hW hs hall
        go_wp2
        go_ret2
        exact ⟨rfl, HB3.out⟩
end Go.Proofs.Ytiibpnhjdfjdkaa
