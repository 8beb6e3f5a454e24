/- The given statement of FnExactBoundFor: for all arguments the program's BoundFor returns what the reference's BoundFor returns. No condition. -/
import Derived.Test.YtlgpejiepogopaaClosed
import Derived.Test.YtlgpejiepogopaaFramePool
import Derived.Test.YtlgpejiepogopaaPool3
import Derived.Test.YtlgpejiepogopaaBoundF
set_option linter.unusedVariables false
set_option linter.unusedSimpArgs false
set_option linter.unusedSectionVars false
namespace Go.Proofs.Ytlgpejiepogopaa.lawBoundFor
open Go.ChangeShapes Go.WideShapes Go.ChangeAt Go.RowKit

theorem walk (w : World) (o : Option Addr) (n c : Nat) (x : Nat → Nat → Int) (hn : n ≤ maxLen) (h : PoolAt w o n x) (z : Int) (hz : -9223372036854775808 ≤ z ∧ z ≤ 9223372036854775807) (y : Int) (hy : -9223372036854775808 ≤ y ∧ y ≤ 9223372036854775807) (u : Int) (hu : -9223372036854775808 ≤ u ∧ u ≤ 9223372036854775807) : Calls Try.prog 9 #[poolV o n c, .int .i64 z, .int .i64 y, .int .i64 u] w fun e w' => e = .returned (.bool true) ∧ Below w.heap.size w w' := by
  have H := Lib.hid h; clear h
  by_cases hs : n ≤ 1048576
  · have d1 : decide ((1048576 : Int) - (n : Int) < 0) = false := by simp; omega
    go_enter Try.func9, Try.ntmps9
    go_wp2_with (first | (go_at_call 23; refine (szPool_ok o n c hs _).mono ?_; rintro e w' ⟨rfl, rfl⟩) | fail)
    go_at_call 25
    refine (toPool_any o n c x hs _ H.out).mono ?_
    rintro e w1 ⟨o1, rfl, hp1, hb1⟩
    have P1 := Lib.hid hp1
    have HB1 := Lib.hid hb1; clear hb1 hp1
    go_wp2_with fail
    go_at_call 41
    refine (sBoundFor_any o1 n n x hs z y u _ P1.out).mono ?_
    rintro e w2 ⟨rfl, hb2⟩
    have HB2 := Lib.hid (HB1.out.trans (hb2.mono HB1.out.size)); clear hb2
    go_wp2_with fail
    go_at_call 25
    refine (toPool_any o n c x hs _ (H.out.below HB2.out)).mono ?_
    rintro e w3 ⟨o3, rfl, hp3, hb3⟩
    have P3 := Lib.hid hp3
    have HB3 := Lib.hid (HB2.out.trans (hb3.mono HB2.out.size)); clear hb3 hp3
    have Q_3 := P3
    go_wp2_with fail
    go_at_call 42
    refine (iBoundFor_any o3 n n x hs z y u _ P3.out).mono ?_
    rintro e w4 ⟨rfl, hb4⟩
    have Q_4 := Lib.hid (Q_3.out.below hb4)
    have HB4 := Lib.hid (HB3.out.trans (hb4.mono HB3.out.size)); clear hb4
    go_wp2_with fail
    go_at_call 25
    refine (toPool_any o n c x hs _ (H.out.below HB4.out)).mono ?_
    rintro e w5 ⟨o5, rfl, hp5, hb5⟩
    have P5 := Lib.hid hp5
    have Q_5 := Lib.hid (Q_4.out.below hb5)
    have HB5 := Lib.hid (HB4.out.trans (hb5.mono HB4.out.size)); clear hb5 hp5
    go_wp2_with fail
    go_at_call 28
    refine (eqPool_any o3 o5 n n n x hs _ Q_5.out P5.out).mono ?_
    rintro e w6 ⟨rfl, hb6⟩
    have HB6 := Lib.hid (HB5.out.trans (hb6.mono HB5.out.size)); clear hb6
    go_wp2
    go_ret
    exact ⟨rfl, HB6.out⟩
  · go_enter Try.func9, Try.ntmps9
    go_wp2_with (first | (go_at_call 23; refine (szPool_big o n c hs hn _).mono ?_; rintro e w' ⟨rfl, rfl⟩) | fail)
    go_ret
    exact ⟨rfl, Below.refl _ _⟩

set_option maxRecDepth 100000 in
theorem lifted (os : Os) (started : os.Started) (H : Type) (enc : TypeId × Value → H) :
    ReturnsInHanded {} Try.checked os 9 .any (Rows.fnExactBoundForSpec.pre6 enc Try.prog Try.f9 Rows.fnExactBoundForRow.domain false) (Rows.fnExactBoundForSpec.post enc Try.prog Try.f9 false true false false) := by
  refine returnsInHanded_of_change (C := Try.checked) own started (by kernel_rfl) Try.func9
    (ChangeSpec.witness6 (enc := enc) (C := Try.checked) false ⟨#[], #[.slice none 0 0, .int .i64 0, .int .i64 0, .int .i64 0], []⟩ 8 (by kernel_rfl) (by kernel_rfl) (by kernel_rfl) (by kernel_rfl)) ?_
  intro W base args ds gs before hval0 hW hcnd _
  have hval : ∀ (j : Nat) t v, Try.f9.params[j]? = some t → args[j]? = some v → Value.okWide Try.prog W .any base t v := hval0
  have hW' := hW
  obtain ⟨p, q, hA0, hV, rfl, hfz, hnd⟩ := hW
  have hA : DataW.TrodAll enc Try.prog W 0 (fun _ => true) true Try.f9.params.toList args.toList ds p := hA0
  rw [Try.params9] at hA hval
  obtain ⟨v0, vs0, d0, ds0, p0, q0, hargs, rfl, rfl, h0, r0⟩ := trodAll_cons hA
  obtain ⟨v1, vs1, d1, ds1, p1, q1, rfl, rfl, rfl, h1, r1⟩ := trodAll_cons r0
  obtain ⟨v2, vs2, d2, ds2, p2, q2, rfl, rfl, rfl, h2, r2⟩ := trodAll_cons r1
  obtain ⟨v3, vs3, d3, ds3, p3, q3, rfl, rfl, rfl, h3, r3⟩ := trodAll_cons r2
  obtain ⟨rfl, rfl, rfl⟩ := trodAll_nil r3
  obtain rfl : args = #[v0, v1, v2, v3] := by cases args; simp_all
  obtain ⟨rfl, rfl⟩ := trodVars_none hV
  obtain ⟨o0, n0, c0, x0, rfl, b0, k0⟩ := open_pool (hval 0 28 v0 rfl rfl) h0
  obtain ⟨x1, rfl, _, _, b1⟩ := open_int Try.underlying3 (hval 1 3 v1 rfl rfl) h1
  obtain ⟨x2, rfl, _, _, b2⟩ := open_int Try.underlying3 (hval 2 3 v2 rfl rfl) h2
  obtain ⟨x3, rfl, _, _, b3⟩ := open_int Try.underlying3 (hval 3 3 v3 rfl rfl) h3
  clear hA0 hval0
  refine (walk W o0 n0 c0 x0 b0 k0 x1 (bounds_i64 b1) x2 (bounds_i64 b2) x3 (bounds_i64 b3)).mono fun e W' ⟨he, bel⟩ => ?_
  subst he
  exact ⟨_, rfl, law_post laidOut Try.underlying4 rfl (by intro t ht; rw [Try.params9] at ht; revert t; decide +kernel) rfl hW' rfl rfl rfl bel⟩

theorem closed : joinedFacts Try.prog 9 Try.f9 Rows.fnExactBoundForSpec Rows.fnExactBoundForRow = true := by
  unfold joinedFacts
  repeat' (with_reducible refine and_mk ?_ ?_)
  all_goals first | (with_reducible exact laidOut) | (with_reducible exact c_maps) | (with_reducible exact c_stops) | (with_reducible exact c_stopKnobs) | (with_reducible exact c_heard) | (with_reducible exact c_enter) | (rw [c_lifts]; rfl) | (rw [c_make]; rfl) | (as_aux_lemma => kernel_rfl)

theorem over : Rows.fnExactBoundForRow.holds Try.pinned (OpenSpec.ofChange Rows.fnExactBoundForSpec) :=
  OpenClaim.holds_of_wide 9 Try.f9 rfl rfl rfl rfl rfl rfl rfl ⟨rfl, rfl, rfl, rfl, rfl⟩ rfl rfl rfl rfl rfl (by as_aux_lemma => kernel_rfl) Try.func9 closed
    (of_decide_eq_true (by as_aux_lemma => kernel_rfl)) (by unfold Func.isWrapper; rw [if_neg (of_decide_eq_false (by as_aux_lemma => kernel_rfl))]; exact ⟨rfl, rfl⟩)
    (fun os started H enc _ => lifted os started H enc)

theorem proved : Rows.FnExactBoundForSaid := over
#print axioms proved
end Go.Proofs.Ytlgpejiepogopaa.lawBoundFor
