/- The given statement of FnExactMirrorPair: for all arguments the program's MirrorPair returns what the reference's MirrorPair returns. No condition. -/
import Derived.Test.YtmhlfpcndgoemaaClosed
import Derived.Test.YtmhlfpcndgoemaaFramePair
import Derived.Test.YtmhlfpcndgoemaaInv
import Derived.Test.YtmhlfpcndgoemaaMirror
set_option linter.unusedVariables false
set_option linter.unusedSimpArgs false
set_option linter.unusedSectionVars false
namespace Go.Proofs.Ytmhlfpcndgoemaa.lawMirrorPair
open Go.ChangeShapes Go.WideShapes Go.ChangeAt Go.RowKit

set_option maxRecDepth 100000 in
theorem walk (d e : Nat → Int) (w : World) : Calls Try.prog 24 #[pairV d e] w fun e w' => e = .returned (.bool true) ∧ Below w.heap.size w w' := by
  obtain ⟨x, y, hxy⟩ := mirrorV_pair d e
  have HX := Lib.hid hxy; clear hxy
  go_enter Try.func24, Try.ntmps24
  go_wp2_with (first | (refine wpList_load_part rfl 42 _ rfl (Blk.new _ _ _ _) rfl (Nat.le_of_ble_eq_true rfl) Try.isAgg42 szQ (fun i _ => congrArg _ (Nat.zero_add i)) ?_) | fail)
  go_at_call 59
  refine (toPair_any d e _).mono ?_
  rintro e w1 ⟨rfl, hb1⟩
  have HB1 := Lib.hid hb1; clear hb1
  have A1 := Lib.hid (show Blk w1 w.heap.size 12 42 (I (pairF d e)) from Blk.below (by (repeat (first | (with_reducible exact Blk.new _ _ _ _) | ((with_reducible refine Blk.newS ?_); (focus (first | rfl | (simp; done)))) | ((with_reducible refine Blk.setRowNew ?_); (focus (first | rfl | (simp; done)))) | ((with_reducible refine Blk.setRowOther ?_ _ _ ?_); rotate_left; (focus (first | omega | (simp; done) | (simp; omega)))) | ((with_reducible refine Blk.other ?_ _ _ ?_); rotate_left; (focus (first | omega | (simp; done) | (simp; omega)))) | (with_reducible refine Blk.alloc ?_ _) | (with_reducible refine Blk.drewN ?_ _)))) HB1.out (by (focus (first | omega | (simp; done) | (simp; omega)))))
  have HB1 := Lib.hid (Below.trans (show Below w.heap.size w _ from (by (repeat (first | (with_reducible exact Below.refl _ _) | ((with_reducible refine below_setRow ?_ ?_ _); rotate_left; (focus (first | omega | (simp; done) | (simp; omega)))) | ((with_reducible refine Below.setCell ?_ ?_ _); rotate_left; (focus (first | omega | (simp; done) | (simp; omega)))) | ((with_reducible refine Below.alloc ?_ ?_ _); rotate_left; (focus (first | omega | (simp; done) | (simp; omega)))) | (with_reducible refine below_drewN ?_ _))))) (HB1.out.mono (by (focus (first | omega | (simp; done) | (simp; omega))))))
  go_wp2_with fail
  go_at_call 91
  refine (sMirrorPair_any d e _).mono ?_
  rintro e w2 ⟨rfl, hb2⟩
  have A2 := Lib.hid (A1.out.below hb2 A1.out.lt)
  have HB2 := Lib.hid (HB1.out.trans (hb2.mono HB1.out.size)); clear hb2
  rw [HX.out]
  go_wp2_with (first | (refine wpList_alloc_blk rfl 44 rfl zeroP ?_) | (refine wpList_store_new rfl 44 _ _ rfl rfl rfl (by first | rfl | (simp; done)) szP (fun _ _ => rfl) ?_) | (refine wpList_load_part rfl 42 _ rfl (A2.out.alloc _) rfl (Nat.le_of_ble_eq_true rfl) Try.isAgg42 szQ (fun i _ => congrArg _ (Nat.zero_add i)) ?_) | fail)
  go_at_call 59
  refine (toPair_any d e _).mono ?_
  rintro e w3 ⟨rfl, hb3⟩
  have A3 := Lib.hid ((A2.out.alloc _).below hb3 (by have := A2.out.lt; simp; omega))
  have V3 := Lib.hid (show Blk w3 w2.heap.size 12 44 (I (pairF x y)) from Blk.below (Blk.new _ _ _ _) hb3 (by (focus (first | omega | (simp; done) | (simp; omega)))))
  have HB3 := Lib.hid (Below.trans (HB2.out.alloc (by have := HB2.out.size; omega) _) (hb3.mono (by have := HB2.out.size; simp; omega))); clear hb3
  go_wp2_with fail
  go_at_call 92
  refine (iMirrorPair_any d _ _).mono ?_
  rintro e w4 ⟨rfl, hb4⟩
  have V4 := Lib.hid (V3.out.below hb4 V3.out.lt)
  have HB4 := Lib.hid (HB3.out.trans (hb4.mono HB3.out.size)); clear hb4
  rw [HX.out]
  go_wp2_with (first | (refine wpList_alloc_blk rfl 44 rfl zeroP ?_) | (refine wpList_store_new rfl 44 _ _ rfl rfl rfl (by first | rfl | (simp; done)) szP (fun _ _ => rfl) ?_) | (refine wpList_load_part rfl 44 _ rfl (Blk.new _ _ _ _) rfl (Nat.le_of_ble_eq_true rfl) Try.isAgg44 szP (fun i _ => congrArg _ (Nat.zero_add i)) ?_) | (refine wpList_load_part rfl 44 _ rfl (V4.out.alloc _) rfl (Nat.le_of_ble_eq_true rfl) Try.isAgg44 szP (fun i _ => congrArg _ (Nat.zero_add i)) ?_) | fail)
  go_at_call 74
  refine (eqPair_any x y _).mono ?_
  rintro e w5 ⟨rfl, hb5⟩
  have HB5 := Lib.hid (Below.trans (HB4.out.alloc (by have := HB4.out.size; omega) _) (hb5.mono (by have := HB4.out.size; simp; omega))); clear hb5
  go_wp2
  go_ret
  exact ⟨rfl, HB5.out⟩

set_option maxRecDepth 100000 in
theorem lifted (os : Os) (started : os.Started) (H : Type) (enc : TypeId × Value → H) :
    ReturnsInHanded {} Try.checked os 24 .any (Rows.fnExactMirrorPairSpec.pre6 enc Try.prog Try.f24 Rows.fnExactMirrorPairRow.domain false) (Rows.fnExactMirrorPairSpec.post enc Try.prog Try.f24 false true false false) := by
  refine returnsInHanded_of_change (C := Try.checked) own started (by kernel_rfl) Try.func24
    (ChangeSpec.witness6 (enc := enc) (C := Try.checked) false ⟨#[], #[.agg #[.int .i64 0, .int .i64 0, .int .i64 0, .int .i64 0, .int .i64 0, .int .i64 0, .int .i64 0, .int .i64 0, .int .i64 0, .int .i64 0, .int .i64 0, .int .i64 0]], []⟩ 8 (by kernel_rfl) (by kernel_rfl) (by kernel_rfl) (by kernel_rfl)) ?_
  intro W base args ds gs before hval0 hW hcnd _
  have hval : ∀ (j : Nat) t v, Try.f24.params[j]? = some t → args[j]? = some v → Value.okWide Try.prog W .any base t v := hval0
  have hW' := hW
  obtain ⟨p, q, hA0, hV, rfl, hfz, hnd⟩ := hW
  have hA : DataW.TrodAll enc Try.prog W 0 (fun _ => true) true Try.f24.params.toList args.toList ds p := hA0
  rw [Try.params24] at hA hval
  obtain ⟨v0, vs0, d0, ds0, p0, q0, hargs, rfl, rfl, h0, r0⟩ := trodAll_cons hA
  obtain ⟨rfl, rfl, rfl⟩ := trodAll_nil r0
  obtain rfl : args = #[v0] := by cases args; simp_all
  obtain ⟨rfl, rfl⟩ := trodVars_none hV
  obtain ⟨x0, y0, rfl⟩ := open_pair (hval 0 42 v0 rfl rfl) h0
  clear hA0 hval0
  refine (walk x0 y0 W).mono fun e W' ⟨he, bel⟩ => ?_
  subst he
  exact ⟨_, rfl, law_post laidOut Try.underlying4 rfl (by intro t ht; rw [Try.params24] at ht; revert t; decide +kernel) rfl hW' rfl rfl rfl bel⟩

theorem closed : joinedFacts Try.prog 24 Try.f24 Rows.fnExactMirrorPairSpec Rows.fnExactMirrorPairRow = true := by
  unfold joinedFacts
  repeat' (with_reducible refine and_mk ?_ ?_)
  all_goals first | (with_reducible exact laidOut) | (with_reducible exact c_maps) | (with_reducible exact c_stops) | (with_reducible exact c_stopKnobs) | (with_reducible exact c_heard) | (with_reducible exact c_enter) | (rw [c_lifts]; rfl) | (rw [c_make]; rfl) | (as_aux_lemma => kernel_rfl)

theorem over : Rows.fnExactMirrorPairRow.holds Try.pinned (OpenSpec.ofChange Rows.fnExactMirrorPairSpec) :=
  OpenClaim.holds_of_wide 24 Try.f24 rfl rfl rfl rfl rfl rfl rfl ⟨rfl, rfl, rfl, rfl, rfl⟩ rfl rfl rfl rfl rfl (by as_aux_lemma => kernel_rfl) Try.func24 closed
    (of_decide_eq_true (by as_aux_lemma => kernel_rfl)) (by unfold Func.isWrapper; rw [if_neg (of_decide_eq_false (by as_aux_lemma => kernel_rfl))]; exact ⟨rfl, rfl⟩)
    (fun os started H enc _ => lifted os started H enc)

theorem proved : Rows.FnExactMirrorPairSaid := over
#print axioms proved
end Go.Proofs.Ytmhlfpcndgoemaa.lawMirrorPair
