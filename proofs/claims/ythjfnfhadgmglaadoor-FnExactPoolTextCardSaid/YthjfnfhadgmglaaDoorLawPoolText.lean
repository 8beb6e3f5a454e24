/- The given statement of FnExactPoolText: for all arguments the program's PoolText returns what the reference's PoolText returns. No condition. -/
import Derived.Test.YthjfnfhadgmglaaDoorTabs
import Derived.Test.YthjfnfhadgmglaaDoorPoolU
import Derived.Test.YthjfnfhadgmglaaDoorFramePool
import Derived.Test.YthjfnfhadgmglaaDoorTie
import Derived.Test.YthjfnfhadgmglaaDoorCards
set_option linter.unusedVariables false
set_option linter.unusedSimpArgs false
set_option linter.unusedSectionVars false
namespace Go.Proofs.YthjfnfhadgmglaaDoor.lawPoolText
open Go.ChangeShapes Go.WideShapes Go.ChangeAt Go.RowKit
theorem facts_of {W : World} (h : laidMet Tryd.prog Rows.fnExactPoolTextRow.laid W) (hsh : W.ShapedOpen Tryd.prog) : TabOk W := tab_of h (by kernel_rfl)
set_option maxRecDepth 100000 in
set_option maxHeartbeats 1000000 in
theorem walk (w : World) (o : Option Addr) (n c : Nat) (x : Nat → Nat → Int) (hn : n ≤ maxLen) (h : PoolAt w o n x) (htab : TabOk w) : Calls Tryd.prog 8 #[poolV o n c] w fun e w' => e = .returned (.bool true) ∧ Below w.heap.size w w' := by
  have H := Lib.hid h; clear h
  have HTAB := Lib.hid htab; clear htab
  by_cases hs : n ≤ 1048576
  · have d1 : decide ((1048576 : Int) - (n : Int) < 0) = false := by simp; omega
    have SA := Lib.hid (fun o c w h => sPoolText_any o n c x hs w h)
    have IA := Lib.hid (fun o c w h ht => iPoolText_any o n c x hs w h ht)
    obtain ⟨v, hv⟩ : ∃ v, v = ptV n x := ⟨_, rfl⟩
    obtain ⟨j, hj⟩ : ∃ j, j = poolB n x := ⟨_, rfl⟩
    rw [← hv, ← hj] at SA IA
    clear hv hj
    go_enter Tryd.func8, Tryd.ntmps8
    go_wp2_with (first | (go_at_call 23; refine (szPool_ok o n c hs _).mono ?_; rintro e w' ⟨rfl, rfl⟩) | fail)
    go_at_call 25
    refine (toPool_any o n c x hs _ H.out).mono ?_
    rintro e w1 ⟨o1, rfl, hp1, hb1⟩
    have P1 := Lib.hid hp1
    have HB1 := Lib.hid hb1; clear hb1 hp1
    go_wp2_with fail
    go_at_call 24
    refine (SA.out o1 n _ P1.out).mono ?_
    rintro e w2 ⟨rfl, hb2⟩
    have HB2 := Lib.hid (HB1.out.trans (hb2.mono HB1.out.size)); clear hb2
    go_wp2_with fail
    go_at_call 25
    refine (toPool_any o n c x hs _ (H.out.below HB2.out)).mono ?_
    rintro e w3 ⟨o3, rfl, hp3, hb3⟩
    have P3 := Lib.hid hp3
    have HB3 := Lib.hid (HB2.out.trans (hb3.mono HB2.out.size)); clear hb3 hp3
    have Q_3 := P3
    go_wp2_with fail
    go_at_call 26
    refine (IA.out o3 n _ P3.out (HTAB.out.below HB3.out)).mono ?_
    rintro e w4 ⟨rfl, hb4⟩
    have Q_4 := Lib.hid (Q_3.out.below hb4)
    have HB4 := Lib.hid (HB3.out.trans (hb4.mono HB3.out.size)); clear hb4
    go_wp2_with fail
    go_at_call 25
    refine (toPool_any o n c x hs _ (H.out.below HB4.out)).mono ?_
    rintro e w5 ⟨o5, rfl, hp5, hb5⟩
    have P5 := Lib.hid hp5
    have Q_5 := Lib.hid (Q_4.out.below hb5)
    have HB5 := Lib.hid (HB4.out.trans (hb5.mono HB4.out.size)); clear hb5 hp5
    go_wp2_with fail
    go_at_call 27
    refine (eqPool_any o3 o5 n n n x hs _ Q_5.out P5.out).mono ?_
    rintro e w6 ⟨rfl, hb6⟩
    have HB6 := Lib.hid (HB5.out.trans (hb6.mono HB5.out.size)); clear hb6
    go_wp2
    go_ret
    exact ⟨rfl, HB6.out⟩
  · go_enter Tryd.func8, Tryd.ntmps8
    go_wp2_with (first | (go_at_call 23; refine (szPool_big o n c hs hn _).mono ?_; rintro e w' ⟨rfl, rfl⟩) | fail)
    go_ret
    exact ⟨rfl, Below.refl _ _⟩
set_option maxRecDepth 100000 in
theorem lifted (os : Os) (started : os.Started) (H : Type) (enc : TypeId × Value → H) :
    ReturnsInHanded {} Tryd.checked os 8 .any (fun w args => (Rows.fnExactPoolTextSpec.pre enc Tryd.prog Tryd.f8 Rows.fnExactPoolTextRow.domain false w args ∧ laidMetH Tryd.prog Rows.fnExactPoolTextRow.laid w) ∧ sizedMet enc Tryd.prog Tryd.f8 (OpenSpec.ofChange Rows.fnExactPoolTextSpec) false w args)
      (Rows.fnExactPoolTextSpec.post enc Tryd.prog Tryd.f8 false true false false) := by
  refine lift_and_shape (C := Tryd.checked) (X := fun w _ => laidMetH Tryd.prog Rows.fnExactPoolTextRow.laid w) (fun _ _ _ hh h => h.of_heap hh) own started (by kernel_rfl) Tryd.func8
    (ChangeSpec.witness_shaped (enc := enc) (C := Tryd.checked) (os := os) (X := fun w _ => laidMetH Tryd.prog Rows.fnExactPoolTextRow.laid w) false (World.laidAll Tryd.prog os Rows.fnExactPoolTextRow.laid) #[.slice none 0 0] 8 (World.laidAll_os _ _ _)
      (World.shaped_of_ZipB (by kernel_rfl) (by kernel_rfl)) (by kernel_rfl) (by kernel_rfl) (by kernel_rfl)
      (by rw [MakeChecks.laidMetH_plain _ _ _ (by kernel_rfl)]; exact laidMet_laidAll _ (by kernel_rfl) (by kernel_rfl))) ?_
  intro W base args ds gs before hval0 hW hL hsh
  have hval : ∀ (j : Nat) t v, Tryd.f8.params[j]? = some t → args[j]? = some v → Value.okWide Tryd.prog W .any base t v := hval0
  have hW' := hW
  obtain ⟨p, q, hA0, hV, rfl, hfz, hnd⟩ := hW
  have hA : DataW.TrodAll enc Tryd.prog W 0 (fun _ => true) true Tryd.f8.params.toList args.toList ds p := hA0
  rw [Tryd.params8] at hA hval
  obtain ⟨v0, vs0, d0, ds0, p0, q0, hargs, rfl, rfl, h0, r0⟩ := trodAll_cons hA
  obtain ⟨rfl, rfl, rfl⟩ := trodAll_nil r0
  obtain rfl : args = #[v0] := by cases args; simp_all
  obtain ⟨rfl, rfl⟩ := trodVars_none hV
  obtain ⟨o0, n0, c0, x0, rfl, b0, k0⟩ := open_pool (hval 0 35 v0 rfl rfl) h0
  clear hA0 hval0
  rw [MakeChecks.laidMetH_plain _ _ _ (by kernel_rfl)] at hL
  refine (walk W o0 n0 c0 x0 b0 k0 (facts_of hL hsh)).mono fun e W' ⟨he, bel⟩ => ?_
  subst he
  exact ⟨_, rfl, law_post laidOut Tryd.underlying4 rfl (by intro t ht; rw [Tryd.params8] at ht; revert t; decide +kernel) rfl hW' rfl rfl rfl bel⟩
theorem closed : joinedFacts Tryd.prog 8 Tryd.f8 Rows.fnExactPoolTextSpec Rows.fnExactPoolTextRow = true := by
  unfold joinedFacts
  repeat' (with_reducible refine and_mk ?_ ?_)
  all_goals first | (with_reducible exact laidOut) | (with_reducible exact c_maps) | (with_reducible exact c_stops) | (with_reducible exact c_stopKnobs) | (with_reducible exact c_heard) | (with_reducible exact c_enter) | (rw [c_lifts]; rfl) | (rw [c_make]; rfl) | (as_aux_lemma => kernel_rfl)
theorem over : Rows.fnExactPoolTextRow.holds Tryd.pinned (OpenSpec.ofChange Rows.fnExactPoolTextSpec) :=
  OpenClaim.holds_of_wide 8 Tryd.f8 rfl rfl rfl rfl rfl rfl rfl ⟨rfl, rfl, rfl, rfl, rfl⟩ rfl rfl rfl rfl rfl (by as_aux_lemma => kernel_rfl) Tryd.func8 closed
    (of_decide_eq_true (by as_aux_lemma => kernel_rfl)) (by unfold Func.isWrapper; rw [if_neg (of_decide_eq_false (by as_aux_lemma => kernel_rfl))]; exact ⟨rfl, rfl⟩)
    (fun os started H enc _ => lifted os started H enc)
theorem proved : Rows.FnExactPoolTextCardSaid :=
  Claim7.holds_tied_plain_at .later [] [.data, .data, .data] true (true, "8fa7a104d39ba0b131fee230433ae811f773483b49eabd7620a2af3c04973219") true over (fun _ h => by cases h) (by kernel_rfl) (fun _ h => by cases h) fnExactPoolText_row_tie rfl ⟨rfl, rfl⟩ (by kernel_rfl) rfl
    (fun f fn hf hfn => by
      obtain rfl : f = 8 := Option.some.inj ((show Tryd.prog.funcNamed "loop.example/g01210/laws.FnExactPoolText" = some 8 by kernel_rfl).symm.trans hf) |>.symm
      obtain rfl : fn = Tryd.f8 := (Option.some.inj (Tryd.func8.symm.trans hfn)).symm
      exact ⟨by kernel_rfl, fun j t ht => by
        rw [Tryd.params8] at ht
        have hm : t ∈ [35] := by simpa using Array.mem_of_getElem? ht
        have hall : ([35].all fun u => !Tryd.prog.wantsStandIn u) = true := by kernel_rfl
        exact (show Tryd.prog.wantsStandIn t = false by simpa using List.all_eq_true.1 hall t hm)⟩)
    (by kernel_rfl)
#print axioms proved
end Go.Proofs.YthjfnfhadgmglaaDoor.lawPoolText
