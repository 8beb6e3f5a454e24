/- The given statement of FnExactParsePool: for all arguments the program's ParsePool returns what the reference's ParsePool returns. No condition. -/
import Derived.Test.YthjfnfhadgmglaaDoorErrV
import Derived.Test.YthjfnfhadgmglaaDoorParseU
import Derived.Test.YthjfnfhadgmglaaDoorTie
import Derived.Test.YthjfnfhadgmglaaDoorCards
set_option linter.unusedVariables false
set_option linter.unusedSimpArgs false
set_option linter.unusedSectionVars false
namespace Go.Proofs.YthjfnfhadgmglaaDoor.lawParsePool
open Go.ChangeShapes Go.WideShapes Go.ChangeAt Go.RowKit
theorem facts_of {W : World} (h : laidMet Tryd.prog Rows.fnExactParsePoolRow.laid W) (hsh : W.ShapedOpen Tryd.prog) : ∃ m, LibOk m W := by
  obtain ⟨m, hm⟩ := maxLen_cell hsh
  exact ⟨m, atoi_vars h (by kernel_rfl) (by kernel_rfl) (by kernel_rfl), hm⟩
set_option maxRecDepth 100000 in
set_option maxHeartbeats 2000000 in
theorem walk (w : World) (x : ByteArray) (hx : x.size ≤ maxLen) (hf : ∃ m, LibOk m w) : Calls Tryd.prog 9 #[.string x] w fun e w' => e = .returned (.bool true) ∧ Below w.heap.size w w' := by
  obtain ⟨m, hm⟩ := hf
  have HM := Lib.hid hm; clear hm
  by_cases hz : x.size ≤ 1048576
  · have d1 : decide ((1048576 : Int) < (x.size : Int)) = false := by simp; omega
    have M0 := ppN_le x
    have SA := Lib.hid (fun w => sParsePool_any x hz w)
    have IA := Lib.hid (fun w h => iParsePool_any x hz m w h)
    obtain ⟨M, hMM⟩ : ∃ M, M = ppN x := ⟨_, rfl⟩
    obtain ⟨b, hb⟩ : ∃ b, b = ppB x := ⟨_, rfl⟩
    obtain ⟨f, hff⟩ : ∃ f, f = ppF x := ⟨_, rfl⟩
    rw [← hMM, ← hff, ← hb] at SA IA
    rw [← hMM] at M0
    have M1 : M ≤ 1000000 := by omega
    have d3 : decide (((M * 6 : Nat) : Int) + 1 < 0) = false := by simp; omega
    have d4 : (((M * 6 : Nat) : Int) + 1 != ((M * 6 : Nat) : Int) + 1) = false := by simp
    clear hb hMM hff M0
    go_enter Tryd.func9, Tryd.ntmps9
    go_wp2_with fail
    go_at_call 28
    refine (SA.out _).mono ?_
    rintro e w1 ⟨s1, c1, rfl, hS1, hb1⟩
    have S_1 := Lib.hid hS1
    have HB1 := Lib.hid hb1
    clear hb1 hS1
    go_wp2_with fail
    go_at_call 29
    refine (IA.out _ (HM.out.below HB1.out)).mono ?_
    rintro e w2 ⟨g2, c2, rfl, hG2, hb2⟩
    have G_2 := Lib.hid hG2
    have S_2 := Lib.hid (S_1.out.below hb2)
    have HB2 := Lib.hid (HB1.out.trans (hb2.mono HB1.out.size))
    clear hb2 hG2
    go_wp2_with fail
    go_at_call 27
    refine (eqArrs6_any g2 s1 M c2 c1 _ _ f M1 _ G_2.out S_2.out).mono ?_
    rintro e w3 ⟨rfl, hb3⟩
    have S_3 := Lib.hid (S_2.out.below hb3)
    have G_3 := Lib.hid (G_2.out.below hb3)
    have HB3 := Lib.hid (HB2.out.trans (hb3.mono HB2.out.size))
    clear hb3
    go_wp2_with fail
    go_at_call 30
    refine (markArrs6_any g2 M c2 _ f M1 _ G_3.out).mono ?_
    rintro e w4 ⟨rfl, hG4, hg4⟩
    have S_4 := Lib.hid (S_3.out.grown hg4 (Arrs.sep S_1.out G_2.out (Nat.le_refl _)))
    have G_4 := Lib.hid hG4
    have HB4 := Lib.hid (below_grown HB3.out hg4 (fun g e => by have := (World.ownsRow.lt G_2.out g e).1; have := HB1.out.size; omega) HB3.out.size)
    clear hg4 hG4
    go_wp2_with fail
    go_at_call 31
    refine (heldArrs6_any g2 M c2 _ M1 _ G_4.out).mono ?_
    rintro e w' ⟨rfl, rfl⟩
    go_wp2_with fail
    go_at_call 29
    refine (IA.out _ (HM.out.below HB4.out)).mono ?_
    rintro e w6 ⟨h6, c6, rfl, hR6, hb6⟩
    have R_6 := Lib.hid hR6
    have S_6 := Lib.hid (S_4.out.below hb6)
    have G_6 := Lib.hid (G_4.out.below hb6)
    have HB6 := Lib.hid (HB4.out.trans (hb6.mono HB4.out.size))
    clear hb6 hR6
    go_wp2_with fail
    go_at_call 27
    refine (eqArrs6_any h6 s1 M c6 c1 _ _ f M1 _ R_6.out S_6.out).mono ?_
    rintro e w7 ⟨rfl, hb7⟩
    have G_7 := Lib.hid (G_6.out.below hb7)
    have HB7 := Lib.hid (HB6.out.trans (hb7.mono HB6.out.size))
    clear hb7
    go_wp2_with fail
    go_at_call 31
    refine (heldArrs6_any g2 M c2 _ M1 _ G_7.out).mono ?_
    rintro e w' ⟨rfl, rfl⟩
    go_wp2
    go_ret
    exact ⟨rfl, HB7.out⟩
  · have d1 : decide ((1048576 : Int) < (x.size : Int)) = true := by simp; omega
    go_enter Tryd.func9, Tryd.ntmps9
    go_wp2
    go_ret
    exact ⟨rfl, Below.refl _ _⟩
set_option maxRecDepth 100000 in
theorem lifted (os : Os) (started : os.Started) (H : Type) (enc : TypeId × Value → H) :
    ReturnsInHanded {} Tryd.checked os 9 .any (fun w args => (Rows.fnExactParsePoolSpec.pre enc Tryd.prog Tryd.f9 Rows.fnExactParsePoolRow.domain false w args ∧ laidMetH Tryd.prog Rows.fnExactParsePoolRow.laid w) ∧ sizedMet enc Tryd.prog Tryd.f9 (OpenSpec.ofChange Rows.fnExactParsePoolSpec) false w args)
      (Rows.fnExactParsePoolSpec.post enc Tryd.prog Tryd.f9 false true false false) := by
  refine lift_and_shape (C := Tryd.checked) (X := fun w _ => laidMetH Tryd.prog Rows.fnExactParsePoolRow.laid w) (fun _ _ _ hh h => h.of_heap hh) own started (by kernel_rfl) Tryd.func9
    (ChangeSpec.witness_shaped (enc := enc) (C := Tryd.checked) (os := os) (X := fun w _ => laidMetH Tryd.prog Rows.fnExactParsePoolRow.laid w) false (World.laidAll Tryd.prog os Rows.fnExactParsePoolRow.laid) #[.string ⟨#[]⟩] 8 (World.laidAll_os _ _ _)
      (World.shaped_of_ZipB (by kernel_rfl) (by kernel_rfl)) (by kernel_rfl) (by kernel_rfl) (by kernel_rfl)
      (by rw [MakeChecks.laidMetH_plain _ _ _ (by kernel_rfl)]; exact laidMet_laidAll _ (by kernel_rfl) (by kernel_rfl))) ?_
  intro W base args ds gs before hval0 hW hL hsh
  have hval : ∀ (j : Nat) t v, Tryd.f9.params[j]? = some t → args[j]? = some v → Value.okWide Tryd.prog W .any base t v := hval0
  have hW' := hW
  obtain ⟨p, q, hA0, hV, rfl, hfz, hnd⟩ := hW
  have hA : DataW.TrodAll enc Tryd.prog W 0 (fun _ => true) true Tryd.f9.params.toList args.toList ds p := hA0
  rw [Tryd.params9] at hA hval
  obtain ⟨v0, vs0, d0, ds0, p0, q0, hargs, rfl, rfl, h0, r0⟩ := trodAll_cons hA
  obtain ⟨rfl, rfl, rfl⟩ := trodAll_nil r0
  obtain rfl : args = #[v0] := by cases args; simp_all
  obtain ⟨rfl, rfl⟩ := trodVars_none hV
  obtain ⟨x0, rfl, _, _, b0⟩ := Go.ChangeMaps.open_string Tryd.underlying9 (hval 0 9 v0 rfl rfl) h0
  clear hA0 hval0
  rw [MakeChecks.laidMetH_plain _ _ _ (by kernel_rfl)] at hL
  refine (walk W x0 b0 (facts_of hL hsh)).mono fun e W' ⟨he, bel⟩ => ?_
  subst he
  exact ⟨_, rfl, law_post laidOut Tryd.underlying4 rfl (by intro t ht; rw [Tryd.params9] at ht; revert t; decide +kernel) rfl hW' rfl rfl rfl bel⟩
theorem closed : joinedFacts Tryd.prog 9 Tryd.f9 Rows.fnExactParsePoolSpec Rows.fnExactParsePoolRow = true := by
  unfold joinedFacts
  repeat' (with_reducible refine and_mk ?_ ?_)
  all_goals first | (with_reducible exact laidOut) | (with_reducible exact c_maps) | (with_reducible exact c_stops) | (with_reducible exact c_stopKnobs) | (with_reducible exact c_heard) | (with_reducible exact c_enter) | (rw [c_lifts]; rfl) | (rw [c_make]; rfl) | (as_aux_lemma => kernel_rfl)
theorem over : Rows.fnExactParsePoolRow.holds Tryd.pinned (OpenSpec.ofChange Rows.fnExactParsePoolSpec) :=
  OpenClaim.holds_of_wide 9 Tryd.f9 rfl rfl rfl rfl rfl rfl rfl ⟨rfl, rfl, rfl, rfl, rfl⟩ rfl rfl rfl rfl rfl (by as_aux_lemma => kernel_rfl) Tryd.func9 closed
    (of_decide_eq_true (by as_aux_lemma => kernel_rfl)) (by unfold Func.isWrapper; rw [if_neg (of_decide_eq_false (by as_aux_lemma => kernel_rfl))]; exact ⟨rfl, rfl⟩)
    (fun os started H enc _ => lifted os started H enc)
theorem proved : Rows.FnExactParsePoolCardSaid :=
  Claim7.holds_tied_plain_at .later [] [.data, .data, .data, .data, .sentinel, .sentinel, .pinned] true (true, "8fa7a104d39ba0b131fee230433ae811f773483b49eabd7620a2af3c04973219") true over (fun _ h => by cases h) (by kernel_rfl) (fun _ h => by cases h) fnExactParsePool_row_tie rfl ⟨rfl, rfl⟩ (by kernel_rfl) rfl
    (fun f fn hf hfn => by
      obtain rfl : f = 9 := Option.some.inj ((show Tryd.prog.funcNamed "loop.example/g01210/laws.FnExactParsePool" = some 9 by kernel_rfl).symm.trans hf) |>.symm
      obtain rfl : fn = Tryd.f9 := (Option.some.inj (Tryd.func9.symm.trans hfn)).symm
      exact ⟨by kernel_rfl, fun j t ht => by
        rw [Tryd.params9] at ht
        have hm : t ∈ [9] := by simpa using Array.mem_of_getElem? ht
        have hall : ([9].all fun u => !Tryd.prog.wantsStandIn u) = true := by kernel_rfl
        exact (show Tryd.prog.wantsStandIn t = false by simpa using List.all_eq_true.1 hall t hm)⟩)
    (by kernel_rfl)
#print axioms proved
end Go.Proofs.YthjfnfhadgmglaaDoor.lawParsePool
