/- The given statement of FnExactPatternOf: for all arguments the program's PatternOf returns what the reference's PatternOf returns. No condition. -/
import Derived.Test.YtbfhfadfjgfmaaaClosed
import Derived.Test.YtbfhfadfjgfmaaaFramePool
import Derived.Test.YtbfhfadfjgfmaaaPool3
import Derived.Test.YtbfhfadfjgfmaaaPatT
set_option linter.unusedVariables false
set_option linter.unusedSimpArgs false
set_option linter.unusedSectionVars false
namespace Go.Proofs.Ytbfhfadfjgfmaaa.lawPatternOf
open Go.ChangeShapes Go.WideShapes Go.ChangeAt Go.RowKit

set_option maxRecDepth 100000 in
theorem walk (w : World) (o : Option Addr) (n c : Nat) (x : Nat → Nat → Int) (hn : n ≤ maxLen) (h : PoolAt w o n x) (z : Int) (hz : -9223372036854775808 ≤ z ∧ z ≤ 9223372036854775807) : Calls Try.prog 4 #[poolV o n c, .int .i64 z] w fun e w' => e = .returned (.bool true) ∧ Below w.heap.size w w' := by
  have H := Lib.hid h; clear h
  by_cases hs : n ≤ 1048576
  · have d1 : decide ((1048576 : Int) - (n : Int) < 0) = false := by simp; omega
    go_enter Try.func4, Try.ntmps4
    go_wp2_with (first | (go_at_call 10; refine (szPool_ok o n c hs _).mono ?_; rintro e w' ⟨rfl, rfl⟩) | fail)
    go_at_call 12
    refine (toPool_any o n c x hs _ H.out).mono ?_
    rintro e w1 ⟨o1, rfl, hp1, hb1⟩
    have P1 := Lib.hid hp1
    have HB1 := Lib.hid hb1; clear hb1 hp1
    go_wp2_with fail
    go_at_call 17
    refine (sPatternOf_any o1 n n x hs z _ P1.out).mono ?_
    rintro e w2 ⟨rfl, hb2⟩
    have HB2 := Lib.hid (HB1.out.trans (hb2.mono HB1.out.size)); clear hb2
    go_wp2_with (first | (refine wpList_alloc_blk rfl 29 rfl zero4 ?_) | (refine wpList_store_new rfl 29 _ _ rfl rfl rfl (by first | rfl | (simp; done)) sz4 (fun _ _ => rfl) ?_) | fail)
    go_at_call 12
    refine (toPool_any o n c x hs _ ((H.out.below HB2.out).alloc _)).mono ?_
    rintro e w3 ⟨o3, rfl, hp3, hb3⟩
    have P3 := Lib.hid hp3
    have V3 := Lib.hid (show Blk w3 w2.heap.size 4 29 (I (patV n x z)) from Blk.below (Blk.new _ _ _ _) hb3 (by (focus (first | omega | (simp; done) | (simp; omega)))))
    have HB3 := Lib.hid (Below.trans (HB2.out.alloc (by have := HB2.out.size; omega) _) (hb3.mono (by have := HB2.out.size; simp; omega))); clear hb3 hp3
    go_wp2_with fail
    go_at_call 18
    refine (iPatternOf_any o3 n n x hs z _ P3.out).mono ?_
    rintro e w4 ⟨rfl, hb4⟩
    have V4 := Lib.hid (V3.out.below hb4 V3.out.lt)
    have Q4 := Lib.hid (P3.out.below hb4)
    have HB4 := Lib.hid (HB3.out.trans (hb4.mono HB3.out.size)); clear hb4
    go_wp2_with (first | (refine wpList_alloc_blk rfl 29 rfl zero4 ?_) | (refine wpList_store_new rfl 29 _ _ rfl rfl rfl (by first | rfl | (simp; done)) sz4 (fun _ _ => rfl) ?_) | (refine wpList_load_blk rfl 29 _ rfl (Blk.new _ _ _ _) rfl Try.underlying29 sz4 ?_) | (refine wpList_load_blk rfl 29 _ rfl ((V4.out.alloc _)) rfl Try.underlying29 sz4 ?_) | fail)
    go_at_call 19
    refine (eqA4_any _ _).mono ?_
    rintro e w5 ⟨rfl, hb5⟩
    have Q5 := Lib.hid ((Q4.out.alloc _).below hb5)
    have HB5 := Lib.hid (Below.trans (HB4.out.alloc (by have := HB4.out.size; omega) _) (hb5.mono (by have := HB4.out.size; simp; omega))); clear hb5
    go_wp2_with fail
    go_at_call 12
    refine (toPool_any o n c x hs _ (H.out.below HB5.out)).mono ?_
    rintro e w6 ⟨o6, rfl, hp6, hb6⟩
    have P6 := Lib.hid hp6
    have Q6 := Lib.hid (Q5.out.below hb6)
    have HB6 := Lib.hid (HB5.out.trans (hb6.mono HB5.out.size)); clear hb6 hp6
    go_wp2_with fail
    go_at_call 14
    refine (eqPool_any o3 o6 n n n x hs _ Q6.out P6.out).mono ?_
    rintro e w7 ⟨rfl, hb7⟩
    have HB7 := Lib.hid (HB6.out.trans (hb7.mono HB6.out.size)); clear hb7
    go_wp2
    go_ret
    exact ⟨rfl, HB7.out⟩
  · go_enter Try.func4, Try.ntmps4
    go_wp2_with (first | (go_at_call 10; refine (szPool_big o n c hs hn _).mono ?_; rintro e w' ⟨rfl, rfl⟩) | fail)
    go_ret
    exact ⟨rfl, Below.refl _ _⟩

set_option maxRecDepth 100000 in
theorem lifted (os : Os) (started : os.Started) (H : Type) (enc : TypeId × Value → H) :
    ReturnsInHanded {} Try.checked os 4 .any (Rows.fnExactPatternOfSpec.pre6 enc Try.prog Try.f4 Rows.fnExactPatternOfRow.domain false) (Rows.fnExactPatternOfSpec.post enc Try.prog Try.f4 false true false false) := by
  refine returnsInHanded_of_change (C := Try.checked) own started (by kernel_rfl) Try.func4
    (ChangeSpec.witness6 (enc := enc) (C := Try.checked) false ⟨#[], #[.slice none 0 0, .int .i64 0], []⟩ 8 (by kernel_rfl) (by kernel_rfl) (by kernel_rfl) (by kernel_rfl)) ?_
  intro W base args ds gs before hval0 hW hcnd _
  have hval : ∀ (j : Nat) t v, Try.f4.params[j]? = some t → args[j]? = some v → Value.okWide Try.prog W .any base t v := hval0
  have hW' := hW
  obtain ⟨p, q, hA0, hV, rfl, hfz, hnd⟩ := hW
  have hA : DataW.TrodAll enc Try.prog W 0 (fun _ => true) true Try.f4.params.toList args.toList ds p := hA0
  rw [Try.params4] at hA hval
  obtain ⟨v0, vs0, d0, ds0, p0, q0, hargs, rfl, rfl, h0, r0⟩ := trodAll_cons hA
  obtain ⟨v1, vs1, d1, ds1, p1, q1, rfl, rfl, rfl, h1, r1⟩ := trodAll_cons r0
  obtain ⟨rfl, rfl, rfl⟩ := trodAll_nil r1
  obtain rfl : args = #[v0, v1] := by cases args; simp_all
  obtain ⟨rfl, rfl⟩ := trodVars_none hV
  obtain ⟨o0, n0, c0, x0, rfl, b0, k0⟩ := open_pool (hval 0 22 v0 rfl rfl) h0
  obtain ⟨x1, rfl, _, _, b1⟩ := open_int Try.underlying3 (hval 1 3 v1 rfl rfl) h1
  clear hA0 hval0
  refine (walk W o0 n0 c0 x0 b0 k0 x1 (bounds_i64 b1)).mono fun e W' ⟨he, bel⟩ => ?_
  subst he
  exact ⟨_, rfl, law_post laidOut Try.underlying4 rfl (by intro t ht; rw [Try.params4] at ht; revert t; decide +kernel) rfl hW' rfl rfl rfl bel⟩

theorem closed : joinedFacts Try.prog 4 Try.f4 Rows.fnExactPatternOfSpec Rows.fnExactPatternOfRow = true := by
  unfold joinedFacts
  repeat' (with_reducible refine and_mk ?_ ?_)
  all_goals first | (with_reducible exact laidOut) | (with_reducible exact c_maps) | (with_reducible exact c_stops) | (with_reducible exact c_stopKnobs) | (with_reducible exact c_heard) | (with_reducible exact c_enter) | (rw [c_lifts]; rfl) | (rw [c_make]; rfl) | (as_aux_lemma => kernel_rfl)

theorem over : Rows.fnExactPatternOfRow.holds Try.pinned (OpenSpec.ofChange Rows.fnExactPatternOfSpec) :=
  OpenClaim.holds_of_wide 4 Try.f4 rfl rfl rfl rfl rfl rfl rfl ⟨rfl, rfl, rfl, rfl, rfl⟩ rfl rfl rfl rfl rfl (by as_aux_lemma => kernel_rfl) Try.func4 closed
    (of_decide_eq_true (by as_aux_lemma => kernel_rfl)) (by unfold Func.isWrapper; rw [if_neg (of_decide_eq_false (by as_aux_lemma => kernel_rfl))]; exact ⟨rfl, rfl⟩)
    (fun os started H enc _ => lifted os started H enc)

theorem proved : Rows.FnExactPatternOfSaid := over
#print axioms proved
end Go.Proofs.Ytbfhfadfjgfmaaa.lawPatternOf
