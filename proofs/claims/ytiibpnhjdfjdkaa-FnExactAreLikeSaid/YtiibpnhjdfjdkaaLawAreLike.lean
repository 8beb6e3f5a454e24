/- The given statement of FnExactAreLike: for all arguments the program's AreLike returns what the reference's AreLike returns. No condition. -/
import Derived.Test.YtiibpnhjdfjdkaaClosed
import Derived.Test.YtiibpnhjdfjdkaaFramePair
import Derived.Test.YtiibpnhjdfjdkaaLike
set_option linter.unusedVariables false
set_option linter.unusedSimpArgs false
set_option linter.unusedSectionVars false
namespace Go.Proofs.Ytiibpnhjdfjdkaa.lawAreLike
open Go.ChangeShapes Go.WideShapes Go.ChangeAt Go.RowKit
set_option maxRecDepth 100000 in
set_option maxHeartbeats 1000000 in
theorem walk (a b c d : Nat → Int) (w : World) : Calls Try.prog 3 #[pairV a b, pairV c d] w fun e w' => e = .returned (.bool true) ∧ Below w.heap.size w w' := by
  go_enter Try.func3, Try.ntmps3
  go_wp2
  generalize hW0 : (w.alloc (.cells (row 12 (I (pairF a b))) 24)).alloc (.cells (row 12 (I (pairF c d))) 24) = W0
  have A0 := Lib.hid (show Blk W0 w.heap.size 12 24 (I (pairF a b)) from hW0 ▸ (Blk.new _ _ _ _).alloc _)
  have B0 := Lib.hid (show Blk W0 (w.heap.size + 1) 12 24 (I (pairF c d)) from hW0 ▸ Blk.newS (by simp))
  have HB0 := Lib.hid (show Below w.heap.size w W0 from hW0 ▸ ((Below.refl _ _).alloc (Nat.le_refl _) _).alloc (by simp) _)
  clear hW0
  refine wp_region_grown_lit (by kernel_rfl) (by kernel_rfl) ?_
  repeat (first | go_big_quiet_skip | (go_big_quiet_want; (first | (refine grown_load_part 24 _ rfl (A0.out) rfl (Nat.le_of_ble_eq_true rfl) Try.isAgg24 szQ (fun i _ => congrArg _ (Nat.zero_add i)) ?_; simp only [Act.put, List.setIfInBounds_toArray, List.set_cons_succ, List.set_cons_zero]; go_big_quiet_on) | (refine grown_load_part 24 _ rfl (B0.out) rfl (Nat.le_of_ble_eq_true rfl) Try.isAgg24 szQ (fun i _ => congrArg _ (Nat.zero_add i)) ?_; simp only [Act.put, List.setIfInBounds_toArray, List.set_cons_succ, List.set_cons_zero]; go_big_quiet_on) | (go_big_quiet_op; (first | go_big_quiet_on | (refine ⟨_, fun _ _ => rfl, ?_⟩; go_big_quiet_on) | (apply Exists.intro; refine ⟨fun _ hC => ?_, ?_⟩; (first | (go_at_call 17; with_reducible exact grown_of hC (toPair_any a b _)) | (go_at_call 17; with_reducible exact grown_of hC (toPair_any c d _)) | (go_at_call 16; with_reducible exact grown_of hC (sAreLike_any a b c d _))); go_big_quiet_on))))))
  refine wpQuiet_nil ?_
  intro wg hg
  have A1 := Lib.hid (A0.out.below hg.below A0.out.lt)
  have B1 := Lib.hid (B0.out.below hg.below B0.out.lt)
  have HB1 := Lib.hid (HB0.out.trans (hg.below.mono HB0.out.size))
  clear hg
  go_wp2
  refine wp_region_grown_lit (by kernel_rfl) (by kernel_rfl) ?_
  repeat (first | go_big_quiet_skip | (go_big_quiet_want; (first | (refine grown_load_part 24 _ rfl (A1.out) rfl (Nat.le_of_ble_eq_true rfl) Try.isAgg24 szQ (fun i _ => congrArg _ (Nat.zero_add i)) ?_; simp only [Act.put, List.setIfInBounds_toArray, List.set_cons_succ, List.set_cons_zero]; go_big_quiet_on) | (refine grown_load_part 24 _ rfl (B1.out) rfl (Nat.le_of_ble_eq_true rfl) Try.isAgg24 szQ (fun i _ => congrArg _ (Nat.zero_add i)) ?_; simp only [Act.put, List.setIfInBounds_toArray, List.set_cons_succ, List.set_cons_zero]; go_big_quiet_on) | (go_big_quiet_op; (first | go_big_quiet_on | (refine ⟨_, fun _ _ => rfl, ?_⟩; go_big_quiet_on) | (apply Exists.intro; refine ⟨fun _ hC => ?_, ?_⟩; (first | (go_at_call 17; with_reducible exact grown_of hC (toPair_any a b _)) | (go_at_call 17; with_reducible exact grown_of hC (toPair_any c d _)) | (go_at_call 18; with_reducible exact grown_of hC (iAreLike_any a b c d _))); go_big_quiet_on))))))
  refine wpQuiet_nil ?_
  intro wg hg
  have HB2 := Lib.hid (HB1.out.trans (hg.below.mono HB1.out.size))
  clear hg
  go_wp2
  go_ret
  exact ⟨rfl, HB2.out⟩

set_option maxRecDepth 100000 in
theorem lifted (os : Os) (started : os.Started) (H : Type) (enc : TypeId × Value → H) :
    ReturnsInHanded {} Try.checked os 3 .any (Rows.fnExactAreLikeSpec.pre6 enc Try.prog Try.f3 Rows.fnExactAreLikeRow.domain false) (Rows.fnExactAreLikeSpec.post enc Try.prog Try.f3 false true false false) := by
  refine returnsInHanded_of_change (C := Try.checked) own started (by kernel_rfl) Try.func3
    (ChangeSpec.witness6 (enc := enc) (C := Try.checked) false ⟨#[], #[.agg #[.int .i64 0, .int .i64 0, .int .i64 0, .int .i64 0, .int .i64 0, .int .i64 0, .int .i64 0, .int .i64 0, .int .i64 0, .int .i64 0, .int .i64 0, .int .i64 0], .agg #[.int .i64 0, .int .i64 0, .int .i64 0, .int .i64 0, .int .i64 0, .int .i64 0, .int .i64 0, .int .i64 0, .int .i64 0, .int .i64 0, .int .i64 0, .int .i64 0]], []⟩ 8 (by kernel_rfl) (by kernel_rfl) (by kernel_rfl) (by kernel_rfl)) ?_
  intro W base args ds gs before hval0 hW hcnd _
  have hval : ∀ (j : Nat) t v, Try.f3.params[j]? = some t → args[j]? = some v → Value.okWide Try.prog W .any base t v := hval0
  have hW' := hW
  obtain ⟨p, q, hA0, hV, rfl, hfz, hnd⟩ := hW
  have hA : DataW.TrodAll enc Try.prog W 0 (fun _ => true) true Try.f3.params.toList args.toList ds p := hA0
  rw [Try.params3] at hA hval
  obtain ⟨v0, vs0, d0, ds0, p0, q0, hargs, rfl, rfl, h0, r0⟩ := trodAll_cons hA
  obtain ⟨v1, vs1, d1, ds1, p1, q1, rfl, rfl, rfl, h1, r1⟩ := trodAll_cons r0
  obtain ⟨rfl, rfl, rfl⟩ := trodAll_nil r1
  obtain rfl : args = #[v0, v1] := by cases args; simp_all
  obtain ⟨rfl, rfl⟩ := trodVars_none hV
  obtain ⟨x0, y0, rfl⟩ := open_pair (hval 0 24 v0 rfl rfl) h0
  obtain ⟨x1, y1, rfl⟩ := open_pair (hval 1 24 v1 rfl rfl) h1
  clear hA0 hval0
  refine (walk x0 y0 x1 y1 W).mono fun e W' ⟨he, bel⟩ => ?_
  subst he
  exact ⟨_, rfl, law_post laidOut Try.underlying4 rfl (by intro t ht; rw [Try.params3] at ht; revert t; decide +kernel) rfl hW' rfl rfl rfl bel⟩

theorem closed : joinedFacts Try.prog 3 Try.f3 Rows.fnExactAreLikeSpec Rows.fnExactAreLikeRow = true := by
  unfold joinedFacts
  repeat' (with_reducible refine and_mk ?_ ?_)
  all_goals first | (with_reducible exact laidOut) | (with_reducible exact c_maps) | (with_reducible exact c_stops) | (with_reducible exact c_stopKnobs) | (with_reducible exact c_heard) | (with_reducible exact c_enter) | (rw [c_lifts]; rfl) | (rw [c_make]; rfl) | (as_aux_lemma => kernel_rfl)

theorem over : Rows.fnExactAreLikeRow.holds Try.pinned (OpenSpec.ofChange Rows.fnExactAreLikeSpec) :=
  OpenClaim.holds_of_wide 3 Try.f3 rfl rfl rfl rfl rfl rfl rfl ⟨rfl, rfl, rfl, rfl, rfl⟩ rfl rfl rfl rfl rfl (by as_aux_lemma => kernel_rfl) Try.func3 closed
    (of_decide_eq_true (by as_aux_lemma => kernel_rfl)) (by unfold Func.isWrapper; rw [if_neg (of_decide_eq_false (by as_aux_lemma => kernel_rfl))]; exact ⟨rfl, rfl⟩)
    (fun os started H enc _ => lifted os started H enc)

theorem proved : Rows.FnExactAreLikeSaid := over
#print axioms proved
end Go.Proofs.Ytiibpnhjdfjdkaa.lawAreLike
