/- The given statement of FnExactSortDie: for all arguments the program's SortDie returns what the reference's SortDie returns. No condition. -/
import Derived.Test.YtlgpejiepogopaaClosed
import Derived.Test.YtlgpejiepogopaaSortW
set_option linter.unusedVariables false
set_option linter.unusedSimpArgs false
set_option linter.unusedSectionVars false
namespace Go.Proofs.Ytlgpejiepogopaa.lawSortDie
open Go.ChangeShapes Go.WideShapes Go.ChangeAt Go.RowKit

set_option maxRecDepth 100000 in
theorem walk (d : Nat → Int) (w : World) : Calls Try.prog 3 #[dieV d] w fun e w' => e = .returned (.bool true) ∧ Below w.heap.size w w' := by
  go_enter Try.func3, Try.ntmps3
  go_wp2_with (first | (refine wpList_load_blk rfl 22 _ rfl (Blk.new _ _ _ _) rfl Try.underlying22 sz6 ?_) | fail)
  go_at_call 20
  refine (toA6_any d _).mono ?_
  rintro e w1 ⟨rfl, hb1⟩
  have HB1 := Lib.hid hb1; clear hb1
  have A1 := Lib.hid (show Blk w1 w.heap.size 6 22 (I d) from (Blk.new _ _ _ _).below HB1.out (by simp))
  have HB1 := Lib.hid (((Below.refl w.heap.size w).alloc (by omega) _).trans (HB1.out.mono (by simp)))
  go_wp2_with fail
  go_at_call 19
  refine (sSortDie_any d _).mono ?_
  rintro e w2 ⟨rfl, hb2⟩
  have A2 := Lib.hid (A1.out.below hb2 A1.out.lt)
  have HB2 := Lib.hid (HB1.out.trans (hb2.mono HB1.out.size)); clear hb2
  go_wp2_with (first | (refine wpList_alloc_blk rfl 22 rfl zero6 ?_) | (refine wpList_store_new rfl 22 _ _ rfl rfl rfl (by first | rfl | (simp; done)) sz6 (fun _ _ => rfl) ?_) | (refine wpList_load_blk rfl 22 _ rfl ((A2.out.alloc _)) rfl Try.underlying22 sz6 ?_) | fail)
  go_at_call 20
  refine (toA6_any d _).mono ?_
  rintro e w3 ⟨rfl, hb3⟩
  have A3 := Lib.hid ((A2.out.alloc _).below hb3 (by have := A2.out.lt; simp; omega))
  have V3 := Lib.hid (show Blk w3 w2.heap.size 6 22 (I (sortV d)) from Blk.below (Blk.new _ _ _ _) hb3 (by (focus (first | omega | (simp; done) | (simp; omega)))))
  have HB3 := Lib.hid (Below.trans (HB2.out.alloc (by have := HB2.out.size; omega) _) (hb3.mono (by have := HB2.out.size; simp; omega))); clear hb3
  go_wp2_with fail
  go_at_call 21
  refine (iSortDie_any d _).mono ?_
  rintro e w4 ⟨rfl, hb4⟩
  have V4 := Lib.hid (V3.out.below hb4 V3.out.lt)
  have HB4 := Lib.hid (HB3.out.trans (hb4.mono HB3.out.size)); clear hb4
  go_wp2_with (first | (refine wpList_alloc_blk rfl 22 rfl zero6 ?_) | (refine wpList_store_new rfl 22 _ _ rfl rfl rfl (by first | rfl | (simp; done)) sz6 (fun _ _ => rfl) ?_) | (refine wpList_load_blk rfl 22 _ rfl (Blk.new _ _ _ _) rfl Try.underlying22 sz6 ?_) | (refine wpList_load_blk rfl 22 _ rfl ((V4.out.alloc _)) rfl Try.underlying22 sz6 ?_) | fail)
  go_at_call 22
  refine (eqA6_any _ _).mono ?_
  rintro e w5 ⟨rfl, hb5⟩
  have HB5 := Lib.hid (Below.trans (HB4.out.alloc (by have := HB4.out.size; omega) _) (hb5.mono (by have := HB4.out.size; simp; omega))); clear hb5
  go_wp2
  go_ret
  exact ⟨rfl, HB5.out⟩

set_option maxRecDepth 100000 in
theorem lifted (os : Os) (started : os.Started) (H : Type) (enc : TypeId × Value → H) :
    ReturnsInHanded {} Try.checked os 3 .any (Rows.fnExactSortDieSpec.pre6 enc Try.prog Try.f3 Rows.fnExactSortDieRow.domain false) (Rows.fnExactSortDieSpec.post enc Try.prog Try.f3 false true false false) := by
  refine returnsInHanded_of_change (C := Try.checked) own started (by kernel_rfl) Try.func3
    (ChangeSpec.witness6 (enc := enc) (C := Try.checked) false ⟨#[], #[.agg #[.int .i64 0, .int .i64 0, .int .i64 0, .int .i64 0, .int .i64 0, .int .i64 0]], []⟩ 8 (by kernel_rfl) (by kernel_rfl) (by kernel_rfl) (by kernel_rfl)) ?_
  intro W base args ds gs before hval0 hW hcnd _
  have hval : ∀ (j : Nat) t v, Try.f3.params[j]? = some t → args[j]? = some v → Value.okWide Try.prog W .any base t v := hval0
  have hW' := hW
  obtain ⟨p, q, hA0, hV, rfl, hfz, hnd⟩ := hW
  have hA : DataW.TrodAll enc Try.prog W 0 (fun _ => true) true Try.f3.params.toList args.toList ds p := hA0
  rw [Try.params3] at hA hval
  obtain ⟨v0, vs0, d0, ds0, p0, q0, hargs, rfl, rfl, h0, r0⟩ := trodAll_cons hA
  obtain ⟨rfl, rfl, rfl⟩ := trodAll_nil r0
  obtain rfl : args = #[v0] := by cases args; simp_all
  obtain ⟨rfl, rfl⟩ := trodVars_none hV
  obtain ⟨x0, rfl, b0⟩ := open_arr Try.underlying22 Try.underlying3 (by kernel_rfl) (by kernel_rfl) (hval 0 22 v0 rfl rfl) h0
  clear hA0 hval0
  refine (walk x0 W).mono fun e W' ⟨he, bel⟩ => ?_
  subst he
  exact ⟨_, rfl, law_post laidOut Try.underlying4 rfl (by intro t ht; rw [Try.params3] at ht; revert t; decide +kernel) rfl hW' rfl rfl rfl bel⟩

theorem closed : joinedFacts Try.prog 3 Try.f3 Rows.fnExactSortDieSpec Rows.fnExactSortDieRow = true := by
  unfold joinedFacts
  repeat' (with_reducible refine and_mk ?_ ?_)
  all_goals first | (with_reducible exact laidOut) | (with_reducible exact c_maps) | (with_reducible exact c_stops) | (with_reducible exact c_stopKnobs) | (with_reducible exact c_heard) | (with_reducible exact c_enter) | (rw [c_lifts]; rfl) | (rw [c_make]; rfl) | (as_aux_lemma => kernel_rfl)

theorem over : Rows.fnExactSortDieRow.holds Try.pinned (OpenSpec.ofChange Rows.fnExactSortDieSpec) :=
  OpenClaim.holds_of_wide 3 Try.f3 rfl rfl rfl rfl rfl rfl rfl ⟨rfl, rfl, rfl, rfl, rfl⟩ rfl rfl rfl rfl rfl (by as_aux_lemma => kernel_rfl) Try.func3 closed
    (of_decide_eq_true (by as_aux_lemma => kernel_rfl)) (by unfold Func.isWrapper; rw [if_neg (of_decide_eq_false (by as_aux_lemma => kernel_rfl))]; exact ⟨rfl, rfl⟩)
    (fun os started H enc _ => lifted os started H enc)

theorem proved : Rows.FnExactSortDieSaid := over
#print axioms proved
end Go.Proofs.Ytlgpejiepogopaa.lawSortDie
