/- The given statement of FnExactParseInt: for all arguments the program's ParseInt returns what the reference's ParseInt returns. No condition. -/
import Derived.Test.YthjfnfhadgmglaaDoorTabs
import Derived.Test.YthjfnfhadgmglaaDoorReadS
import Derived.Test.YthjfnfhadgmglaaDoorTie
import Derived.Test.YthjfnfhadgmglaaDoorCards
import Derived.Test.YthjfnfhadgmglaaDoorErrV
set_option linter.unusedVariables false
set_option linter.unusedSimpArgs false
set_option linter.unusedSectionVars false
namespace Go.Proofs.YthjfnfhadgmglaaDoor.lawParseInt
open Go.ChangeShapes Go.WideShapes Go.ChangeAt Go.RowKit
theorem facts_of {W : World} (h : laidMet Tryd.prog Rows.fnExactParseIntRow.laid W) (hsh : W.ShapedOpen Tryd.prog) : AtoiVars W := atoi_vars h (by kernel_rfl) (by kernel_rfl) (by kernel_rfl)
theorem walk (w : World) (x : ByteArray) (hx : x.size ≤ maxLen) (hf : AtoiVars w) : Calls Tryd.prog 7 #[.string x] w fun e w' => e = .returned (.bool true) ∧ Below w.heap.size w w' := by
  have HF := Lib.hid hf; clear hf
  by_cases hz : x.size ≤ 1048576
  · have d1 : decide ((1048576 : Int) < (x.size : Int)) = false := by simp; omega
    obtain ⟨s, hs⟩ : ∃ s, s = rdV x := ⟨_, rfl⟩
    obtain ⟨b, hb⟩ : ∃ b, b = rdB x := ⟨_, rfl⟩
    have SA := Lib.hid (fun w => sParseInt_any x hz w)
    have IA := Lib.hid (fun w h => iParseInt_any x hz w h)
    rw [← hs, ← hb] at SA IA
    clear hs hb
    go_enter Tryd.func7, Tryd.ntmps7
    go_wp2_with fail
    go_at_call 21
    refine (SA.out _).mono ?_
    rintro e w1 ⟨rfl, m, rfl⟩
    go_wp2_with fail
    go_at_call 22
    refine (IA.out _ (HF.out.below (below_drewN (Below.refl _ _) m))).mono ?_
    rintro e w2 ⟨rfl, hb2⟩
    have HB2 := Lib.hid (show Below w.heap.size w w2 from (below_drewN (Below.refl _ _) m).trans hb2)
    clear hb2
    go_wp2
    go_ret
    exact ⟨rfl, HB2.out⟩
  · have d1 : decide ((1048576 : Int) < (x.size : Int)) = true := by simp; omega
    go_enter Tryd.func7, Tryd.ntmps7
    go_wp2
    go_ret
    exact ⟨rfl, Below.refl _ _⟩
set_option maxRecDepth 100000 in
theorem lifted (os : Os) (started : os.Started) (H : Type) (enc : TypeId × Value → H) :
    ReturnsInHanded {} Tryd.checked os 7 .any (fun w args => (Rows.fnExactParseIntSpec.pre enc Tryd.prog Tryd.f7 Rows.fnExactParseIntRow.domain false w args ∧ laidMetH Tryd.prog Rows.fnExactParseIntRow.laid w) ∧ sizedMet enc Tryd.prog Tryd.f7 (OpenSpec.ofChange Rows.fnExactParseIntSpec) false w args)
      (Rows.fnExactParseIntSpec.post enc Tryd.prog Tryd.f7 false true false false) := by
  refine lift_and_shape (C := Tryd.checked) (X := fun w _ => laidMetH Tryd.prog Rows.fnExactParseIntRow.laid w) (fun _ _ _ hh h => h.of_heap hh) own started (by kernel_rfl) Tryd.func7
    (ChangeSpec.witness_shaped (enc := enc) (C := Tryd.checked) (os := os) (X := fun w _ => laidMetH Tryd.prog Rows.fnExactParseIntRow.laid w) false (World.laidAll Tryd.prog os Rows.fnExactParseIntRow.laid) #[.string ⟨#[]⟩] 8 (World.laidAll_os _ _ _)
      (World.shaped_of_ZipB (by kernel_rfl) (by kernel_rfl)) (by kernel_rfl) (by kernel_rfl) (by kernel_rfl)
      (by rw [MakeChecks.laidMetH_plain _ _ _ (by kernel_rfl)]; exact laidMet_laidAll _ (by kernel_rfl) (by kernel_rfl))) ?_
  intro W base args ds gs before hval0 hW hL hsh
  have hval : ∀ (j : Nat) t v, Tryd.f7.params[j]? = some t → args[j]? = some v → Value.okWide Tryd.prog W .any base t v := hval0
  have hW' := hW
  obtain ⟨p, q, hA0, hV, rfl, hfz, hnd⟩ := hW
  have hA : DataW.TrodAll enc Tryd.prog W 0 (fun _ => true) true Tryd.f7.params.toList args.toList ds p := hA0
  rw [Tryd.params7] at hA hval
  obtain ⟨v0, vs0, d0, ds0, p0, q0, hargs, rfl, rfl, h0, r0⟩ := trodAll_cons hA
  obtain ⟨rfl, rfl, rfl⟩ := trodAll_nil r0
  obtain rfl : args = #[v0] := by cases args; simp_all
  obtain ⟨rfl, rfl⟩ := trodVars_none hV
  obtain ⟨x0, rfl, _, _, b0⟩ := Go.ChangeMaps.open_string Tryd.underlying9 (hval 0 9 v0 rfl rfl) h0
  clear hA0 hval0
  rw [MakeChecks.laidMetH_plain _ _ _ (by kernel_rfl)] at hL
  refine (walk W x0 b0 (facts_of hL hsh)).mono fun e W' ⟨he, bel⟩ => ?_
  subst he
  exact ⟨_, rfl, law_post laidOut Tryd.underlying4 rfl (by intro t ht; rw [Tryd.params7] at ht; revert t; decide +kernel) rfl hW' rfl rfl rfl bel⟩
theorem closed : joinedFacts Tryd.prog 7 Tryd.f7 Rows.fnExactParseIntSpec Rows.fnExactParseIntRow = true := by
  unfold joinedFacts
  repeat' (with_reducible refine and_mk ?_ ?_)
  all_goals first | (with_reducible exact laidOut) | (with_reducible exact c_maps) | (with_reducible exact c_stops) | (with_reducible exact c_stopKnobs) | (with_reducible exact c_heard) | (with_reducible exact c_enter) | (rw [c_lifts]; rfl) | (rw [c_make]; rfl) | (as_aux_lemma => kernel_rfl)
theorem over : Rows.fnExactParseIntRow.holds Tryd.pinned (OpenSpec.ofChange Rows.fnExactParseIntSpec) :=
  OpenClaim.holds_of_wide 7 Tryd.f7 rfl rfl rfl rfl rfl rfl rfl ⟨rfl, rfl, rfl, rfl, rfl⟩ rfl rfl rfl rfl rfl (by as_aux_lemma => kernel_rfl) Tryd.func7 closed
    (of_decide_eq_true (by as_aux_lemma => kernel_rfl)) (by unfold Func.isWrapper; rw [if_neg (of_decide_eq_false (by as_aux_lemma => kernel_rfl))]; exact ⟨rfl, rfl⟩)
    (fun os started H enc _ => lifted os started H enc)
theorem proved : Rows.FnExactParseIntCardSaid :=
  Claim7.holds_tied_plain_at .later [] [.data, .data, .data, .sentinel, .sentinel] true (true, "8fa7a104d39ba0b131fee230433ae811f773483b49eabd7620a2af3c04973219") true over (fun _ h => by cases h) (by kernel_rfl) (fun _ h => by cases h) fnExactParseInt_row_tie rfl ⟨rfl, rfl⟩ (by kernel_rfl) rfl
    (fun f fn hf hfn => by
      obtain rfl : f = 7 := Option.some.inj ((show Tryd.prog.funcNamed "loop.example/g01210/laws.FnExactParseInt" = some 7 by kernel_rfl).symm.trans hf) |>.symm
      obtain rfl : fn = Tryd.f7 := (Option.some.inj (Tryd.func7.symm.trans hfn)).symm
      exact ⟨by kernel_rfl, fun j t ht => by
        rw [Tryd.params7] at ht
        have hm : t ∈ [9] := by simpa using Array.mem_of_getElem? ht
        have hall : ([9].all fun u => !Tryd.prog.wantsStandIn u) = true := by kernel_rfl
        exact (show Tryd.prog.wantsStandIn t = false by simpa using List.all_eq_true.1 hall t hm)⟩)
    (by kernel_rfl)
#print axioms proved
end Go.Proofs.YthjfnfhadgmglaaDoor.lawParseInt
