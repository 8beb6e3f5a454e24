/- The given statement of FnExactVerifyChecksum: for all arguments the program's VerifyChecksum returns what the reference's VerifyChecksum returns. No condition. -/
import Derived.Test.YthjfnfhadgmglaaDoorTabs
import Derived.Test.YthjfnfhadgmglaaDoorVerS
import Derived.Test.YthjfnfhadgmglaaDoorTie
import Derived.Test.YthjfnfhadgmglaaDoorCards
set_option linter.unusedVariables false
set_option linter.unusedSimpArgs false
set_option linter.unusedSectionVars false
namespace Go.Proofs.YthjfnfhadgmglaaDoor.lawVerifyChecksum
open Go.ChangeShapes Go.WideShapes Go.ChangeAt Go.RowKit
theorem facts_of {W : World} (h : laidMet Tryd.prog Rows.fnExactVerifyChecksumRow.laid W) (hsh : W.ShapedOpen Tryd.prog) : Lib.TabIs Tryd.prog W "internal/strconv.uint64pow10" .u64 Lib.pow10Tab ∧ ∃ m, W.cell? ⟨0, 0, none⟩ = some (.int .i64 m) :=
  ⟨tab_of h (by kernel_rfl), maxLen_cell hsh⟩
theorem walk (w : World) (x : ByteArray) (hx : x.size ≤ maxLen) (hf : Lib.TabIs Tryd.prog w "internal/strconv.uint64pow10" .u64 Lib.pow10Tab ∧ ∃ m, w.cell? ⟨0, 0, none⟩ = some (.int .i64 m)) : Calls Tryd.prog 6 #[.string x] w fun e w' => e = .returned (.bool true) ∧ Below w.heap.size w w' := by
  obtain ⟨htab, m, hm⟩ := hf
  have HTAB := Lib.hid htab; clear htab
  have HM := Lib.hid hm; clear hm
  obtain ⟨s, hs⟩ : ∃ s, s = verV x := ⟨_, rfl⟩
  obtain ⟨b, hb⟩ : ∃ b, b = verB x := ⟨_, rfl⟩
  by_cases hz : x.size ≤ 1048576
  · have d1 : decide ((1048576 : Int) < (x.size : Int)) = false := by simp; omega
    have SA := Lib.hid (fun w => sVerify_any x w)
    have IA := Lib.hid (fun w h1 h2 => iVerify_any x hz m w h1 h2)
    rw [← hs, ← hb] at SA IA
    clear hs hb
    go_enter Tryd.func6, Tryd.ntmps6
    go_wp2_with fail
    go_at_call 19
    refine (SA.out _).mono ?_
    rintro e w1 ⟨rfl, hb1⟩
    have HB1 := Lib.hid hb1
    clear hb1
    go_wp2_with fail
    go_at_call 20
    refine (IA.out _ (var_keep tab_glob HTAB.out HB1.out) (cell_keep HM.out HB1.out)).mono ?_
    rintro e w2 ⟨rfl, hb2⟩
    have HB2 := Lib.hid (HB1.out.trans (hb2.mono HB1.out.size))
    clear hb2
    go_wp2
    go_ret
    exact ⟨rfl, HB2.out⟩
  · have d1 : decide ((1048576 : Int) < (x.size : Int)) = true := by simp; omega
    go_enter Tryd.func6, Tryd.ntmps6
    go_wp2
    go_ret
    exact ⟨rfl, Below.refl _ _⟩
set_option maxRecDepth 100000 in
theorem lifted (os : Os) (started : os.Started) (H : Type) (enc : TypeId × Value → H) :
    ReturnsInHanded {} Tryd.checked os 6 .any (fun w args => (Rows.fnExactVerifyChecksumSpec.pre enc Tryd.prog Tryd.f6 Rows.fnExactVerifyChecksumRow.domain false w args ∧ laidMetH Tryd.prog Rows.fnExactVerifyChecksumRow.laid w) ∧ sizedMet enc Tryd.prog Tryd.f6 (OpenSpec.ofChange Rows.fnExactVerifyChecksumSpec) false w args)
      (Rows.fnExactVerifyChecksumSpec.post enc Tryd.prog Tryd.f6 false true false false) := by
  refine lift_and_shape (C := Tryd.checked) (X := fun w _ => laidMetH Tryd.prog Rows.fnExactVerifyChecksumRow.laid w) (fun _ _ _ hh h => h.of_heap hh) own started (by kernel_rfl) Tryd.func6
    (ChangeSpec.witness_shaped (enc := enc) (C := Tryd.checked) (os := os) (X := fun w _ => laidMetH Tryd.prog Rows.fnExactVerifyChecksumRow.laid w) false (World.laidAll Tryd.prog os Rows.fnExactVerifyChecksumRow.laid) #[.string ⟨#[]⟩] 8 (World.laidAll_os _ _ _)
      (World.shaped_of_ZipB (by kernel_rfl) (by kernel_rfl)) (by kernel_rfl) (by kernel_rfl) (by kernel_rfl)
      (by rw [MakeChecks.laidMetH_plain _ _ _ (by kernel_rfl)]; exact laidMet_laidAll _ (by kernel_rfl) (by kernel_rfl))) ?_
  intro W base args ds gs before hval0 hW hL hsh
  have hval : ∀ (j : Nat) t v, Tryd.f6.params[j]? = some t → args[j]? = some v → Value.okWide Tryd.prog W .any base t v := hval0
  have hW' := hW
  obtain ⟨p, q, hA0, hV, rfl, hfz, hnd⟩ := hW
  have hA : DataW.TrodAll enc Tryd.prog W 0 (fun _ => true) true Tryd.f6.params.toList args.toList ds p := hA0
  rw [Tryd.params6] at hA hval
  obtain ⟨v0, vs0, d0, ds0, p0, q0, hargs, rfl, rfl, h0, r0⟩ := trodAll_cons hA
  obtain ⟨rfl, rfl, rfl⟩ := trodAll_nil r0
  obtain rfl : args = #[v0] := by cases args; simp_all
  obtain ⟨rfl, rfl⟩ := trodVars_none hV
  obtain ⟨x0, rfl, _, _, b0⟩ := Go.ChangeMaps.open_string Tryd.underlying9 (hval 0 9 v0 rfl rfl) h0
  clear hA0 hval0
  rw [MakeChecks.laidMetH_plain _ _ _ (by kernel_rfl)] at hL
  refine (walk W x0 b0 (facts_of hL hsh)).mono fun e W' ⟨he, bel⟩ => ?_
  subst he
  exact ⟨_, rfl, law_post laidOut Tryd.underlying4 rfl (by intro t ht; rw [Tryd.params6] at ht; revert t; decide +kernel) rfl hW' rfl rfl rfl bel⟩
theorem closed : joinedFacts Tryd.prog 6 Tryd.f6 Rows.fnExactVerifyChecksumSpec Rows.fnExactVerifyChecksumRow = true := by
  unfold joinedFacts
  repeat' (with_reducible refine and_mk ?_ ?_)
  all_goals first | (with_reducible exact laidOut) | (with_reducible exact c_maps) | (with_reducible exact c_stops) | (with_reducible exact c_stopKnobs) | (with_reducible exact c_heard) | (with_reducible exact c_enter) | (rw [c_lifts]; rfl) | (rw [c_make]; rfl) | (as_aux_lemma => kernel_rfl)
theorem over : Rows.fnExactVerifyChecksumRow.holds Tryd.pinned (OpenSpec.ofChange Rows.fnExactVerifyChecksumSpec) :=
  OpenClaim.holds_of_wide 6 Tryd.f6 rfl rfl rfl rfl rfl rfl rfl ⟨rfl, rfl, rfl, rfl, rfl⟩ rfl rfl rfl rfl rfl (by as_aux_lemma => kernel_rfl) Tryd.func6 closed
    (of_decide_eq_true (by as_aux_lemma => kernel_rfl)) (by unfold Func.isWrapper; rw [if_neg (of_decide_eq_false (by as_aux_lemma => kernel_rfl))]; exact ⟨rfl, rfl⟩)
    (fun os started H enc _ => lifted os started H enc)
theorem proved : Rows.FnExactVerifyChecksumCardSaid :=
  Claim7.holds_tied_plain_at .later [] [.data, .data, .data] true (true, "8fa7a104d39ba0b131fee230433ae811f773483b49eabd7620a2af3c04973219") true over (fun _ h => by cases h) (by kernel_rfl) (fun _ h => by cases h) fnExactVerifyChecksum_row_tie rfl ⟨rfl, rfl⟩ (by kernel_rfl) rfl
    (fun f fn hf hfn => by
      obtain rfl : f = 6 := Option.some.inj ((show Tryd.prog.funcNamed "loop.example/g01210/laws.FnExactVerifyChecksum" = some 6 by kernel_rfl).symm.trans hf) |>.symm
      obtain rfl : fn = Tryd.f6 := (Option.some.inj (Tryd.func6.symm.trans hfn)).symm
      exact ⟨by kernel_rfl, fun j t ht => by
        rw [Tryd.params6] at ht
        have hm : t ∈ [9] := by simpa using Array.mem_of_getElem? ht
        have hall : ([9].all fun u => !Tryd.prog.wantsStandIn u) = true := by kernel_rfl
        exact (show Tryd.prog.wantsStandIn t = false by simpa using List.all_eq_true.1 hall t hm)⟩)
    (by kernel_rfl)
#print axioms proved
end Go.Proofs.YthjfnfhadgmglaaDoor.lawVerifyChecksum
