/- The given statement of FnExactLeastShift: for all arguments the program's LeastShift returns what the reference's LeastShift returns. No condition. -/
import Derived.Test.YtmhlfpcndgoemaaClosed
import Derived.Test.YtmhlfpcndgoemaaLeast2
set_option linter.unusedVariables false
set_option linter.unusedSimpArgs false
set_option linter.unusedSectionVars false
namespace Go.Proofs.Ytmhlfpcndgoemaa.lawLeastShift
open Go.ChangeShapes Go.WideShapes Go.ChangeAt Go.RowKit

theorem walk (d e : Nat → Int) (w : World) : Calls Try.prog 15 #[dieV d, dieV e] w fun e w' => e = .returned (.bool true) ∧ Below w.heap.size w w' := by
  go_enter Try.func15, Try.ntmps15
  go_wp2
  refine wp_region_grown_lit (by kernel_rfl) (by kernel_rfl) ?_
  repeat (first | go_big_quiet_skip | (go_big_quiet_want; (first | (refine grown_load 22 _ rfl ((Blk.new _ _ _ _).alloc _) rfl Try.underlying22 sz6 ?_; simp only [Act.put, List.setIfInBounds_toArray, List.set_cons_succ, List.set_cons_zero]; go_big_quiet_on) | (refine grown_load 22 _ rfl (Blk.newAt (by simp) rfl) rfl Try.underlying22 sz6 ?_; simp only [Act.put, List.setIfInBounds_toArray, List.set_cons_succ, List.set_cons_zero]; go_big_quiet_on) | (go_big_quiet_op; (first | go_big_quiet_on | (refine ⟨_, fun _ _ => rfl, ?_⟩; go_big_quiet_on) | (apply Exists.intro; refine ⟨fun _ hC => ?_, ?_⟩; (first | (go_at_call 39; exact grown_of hC (toA6_any _ _)) | (go_at_call 70; exact grown_of hC (sLeastShift_any _ _ _))); go_big_quiet_on))))))
  refine wpQuiet_nil ?_
  intro wg hg
  have A1 := Lib.hid (show Blk wg w.heap.size 6 22 (I d) from ((Blk.new _ _ _ _).alloc _).below hg.below (by simp; omega))
  have B1 := Lib.hid (show Blk wg (w.heap.size + 1) 6 22 (I e) from (Blk.newS (by simp)).below hg.below (by simp))
  have HB1 := Lib.hid ((((Below.refl w.heap.size w).alloc (by omega) _).alloc (by simp) _).trans (hg.below.mono (by simp; omega)))
  clear hg
  go_wp2
  refine wp_region_grown_lit (by kernel_rfl) (by kernel_rfl) ?_
  repeat (first | go_big_quiet_skip | (go_big_quiet_want; (first | (refine grown_load 22 _ rfl (A1.out) rfl Try.underlying22 sz6 ?_; simp only [Act.put, List.setIfInBounds_toArray, List.set_cons_succ, List.set_cons_zero]; go_big_quiet_on) | (refine grown_load 22 _ rfl (B1.out) rfl Try.underlying22 sz6 ?_; simp only [Act.put, List.setIfInBounds_toArray, List.set_cons_succ, List.set_cons_zero]; go_big_quiet_on) | (go_big_quiet_op; (first | go_big_quiet_on | (refine ⟨_, fun _ _ => rfl, ?_⟩; go_big_quiet_on) | (apply Exists.intro; refine ⟨fun _ hC => ?_, ?_⟩; (first | (go_at_call 39; exact grown_of hC (toA6_any _ _)) | (go_at_call 71; exact grown_of hC (iLeastShift_any _ _ _))); go_big_quiet_on))))))
  refine wpQuiet_nil ?_
  intro wg hg
  go_wp2
  go_ret
  exact ⟨rfl, HB1.out.trans (hg.below.mono HB1.out.size)⟩

set_option maxRecDepth 100000 in
theorem lifted (os : Os) (started : os.Started) (H : Type) (enc : TypeId × Value → H) :
    ReturnsInHanded {} Try.checked os 15 .any (Rows.fnExactLeastShiftSpec.pre6 enc Try.prog Try.f15 Rows.fnExactLeastShiftRow.domain false) (Rows.fnExactLeastShiftSpec.post enc Try.prog Try.f15 false true false false) := by
  refine returnsInHanded_of_change (C := Try.checked) own started (by kernel_rfl) Try.func15
    (ChangeSpec.witness6 (enc := enc) (C := Try.checked) false ⟨#[], #[.agg #[.int .i64 0, .int .i64 0, .int .i64 0, .int .i64 0, .int .i64 0, .int .i64 0], .agg #[.int .i64 0, .int .i64 0, .int .i64 0, .int .i64 0, .int .i64 0, .int .i64 0]], []⟩ 8 (by kernel_rfl) (by kernel_rfl) (by kernel_rfl) (by kernel_rfl)) ?_
  intro W base args ds gs before hval0 hW hcnd _
  have hval : ∀ (j : Nat) t v, Try.f15.params[j]? = some t → args[j]? = some v → Value.okWide Try.prog W .any base t v := hval0
  have hW' := hW
  obtain ⟨p, q, hA0, hV, rfl, hfz, hnd⟩ := hW
  have hA : DataW.TrodAll enc Try.prog W 0 (fun _ => true) true Try.f15.params.toList args.toList ds p := hA0
  rw [Try.params15] at hA hval
  obtain ⟨v0, vs0, d0, ds0, p0, q0, hargs, rfl, rfl, h0, r0⟩ := trodAll_cons hA
  obtain ⟨v1, vs1, d1, ds1, p1, q1, rfl, rfl, rfl, h1, r1⟩ := trodAll_cons r0
  obtain ⟨rfl, rfl, rfl⟩ := trodAll_nil r1
  obtain rfl : args = #[v0, v1] := by cases args; simp_all
  obtain ⟨rfl, rfl⟩ := trodVars_none hV
  obtain ⟨x0, rfl, b0⟩ := open_arr Try.underlying22 Try.underlying3 (by kernel_rfl) (by kernel_rfl) (hval 0 22 v0 rfl rfl) h0
  obtain ⟨x1, rfl, b1⟩ := open_arr Try.underlying22 Try.underlying3 (by kernel_rfl) (by kernel_rfl) (hval 1 22 v1 rfl rfl) h1
  clear hA0 hval0
  refine (walk x0 x1 W).mono fun e W' ⟨he, bel⟩ => ?_
  subst he
  exact ⟨_, rfl, law_post laidOut Try.underlying4 rfl (by intro t ht; rw [Try.params15] at ht; revert t; decide +kernel) rfl hW' rfl rfl rfl bel⟩

theorem closed : joinedFacts Try.prog 15 Try.f15 Rows.fnExactLeastShiftSpec Rows.fnExactLeastShiftRow = true := by
  unfold joinedFacts
  repeat' (with_reducible refine and_mk ?_ ?_)
  all_goals first | (with_reducible exact laidOut) | (with_reducible exact c_maps) | (with_reducible exact c_stops) | (with_reducible exact c_stopKnobs) | (with_reducible exact c_heard) | (with_reducible exact c_enter) | (rw [c_lifts]; rfl) | (rw [c_make]; rfl) | (as_aux_lemma => kernel_rfl)

theorem over : Rows.fnExactLeastShiftRow.holds Try.pinned (OpenSpec.ofChange Rows.fnExactLeastShiftSpec) :=
  OpenClaim.holds_of_wide 15 Try.f15 rfl rfl rfl rfl rfl rfl rfl ⟨rfl, rfl, rfl, rfl, rfl⟩ rfl rfl rfl rfl rfl (by as_aux_lemma => kernel_rfl) Try.func15 closed
    (of_decide_eq_true (by as_aux_lemma => kernel_rfl)) (by unfold Func.isWrapper; rw [if_neg (of_decide_eq_false (by as_aux_lemma => kernel_rfl))]; exact ⟨rfl, rfl⟩)
    (fun os started H enc _ => lifted os started H enc)

theorem proved : Rows.FnExactLeastShiftSaid := over
#print axioms proved
end Go.Proofs.Ytmhlfpcndgoemaa.lawLeastShift
