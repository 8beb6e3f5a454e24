/- The given statement of FnExactAppendChecksum: for all arguments the program's AppendChecksum returns what the reference's AppendChecksum returns. No condition. -/
/- AppendChecksum of the program returns what the reference's returns, for every text; the row lists three tables of the library's, each tied to the program's text by the given tie. -/
import Derived.Test.YthjfnfhadgmglaaDoorClosed
import Derived.Test.YthjfnfhadgmglaaDoorSeal
import Derived.Test.YthjfnfhadgmglaaDoorTie
import Derived.Test.YthjfnfhadgmglaaDoorCards
import Derived.ProofKit
import Derived.OpenShut
import Derived.LaidMore
import Derived.Lay
import Derived.Lib.LaidTab
import Derived.SevenTiedAt
import Derived.Stop.Joined
import Derived.ChangeMaps5
set_option linter.unusedVariables false
set_option linter.unusedSimpArgs false
set_option linter.unusedSectionVars false
namespace Go.Proofs.YthjfnfhadgmglaaDoor.lawAppendChecksum
open Go.ChangeShapes Go.WideShapes Go.ChangeAt Go.RowKit
theorem tab_data : (Rows.laid_internal_strconv_uint64pow10 : DataW Unit) = Lib.tabData .u64 Lib.pow10Tab := by kernel_rfl
theorem glob : Tryd.prog.globalNamed "internal/strconv.uint64pow10" = some 3 := by kernel_rfl
theorem globT : (Tryd.prog.globals[3]?).map (·.type) = some 107 := by kernel_rfl
theorem tab_of {W : World} (h : laidMet Tryd.prog Rows.fnExactAppendChecksumRow.laid W) : Lib.TabIs Tryd.prog W "internal/strconv.uint64pow10" .u64 Lib.pow10Tab := by
  obtain ⟨ps, ⟨_, _, _, _, _, _, _, _, _, _, h2, _⟩, _⟩ := h
  obtain ⟨_, _, _, _, _, _, _, _, _, _, h3, _⟩ := h2
  obtain ⟨g', t', cs, fuel, p, q, hg', ht', hvar, hd, _, _⟩ := h3
  obtain rfl := Option.some.inj (glob.symm.trans hg')
  obtain rfl := Option.some.inj (globT.symm.trans ht')
  unfold Lib.TabIs
  rw [tab_data] at hd
  rw [hvar, ← Lib.cells_of_tab Tryd.underlying107 Tryd.underlying88 (by kernel_rfl) (by kernel_rfl) hd]
set_option maxRecDepth 100000 in
theorem lifted (os : Os) (started : os.Started) (H : Type) (enc : TypeId × Value → H) :
    ReturnsInHanded {} Tryd.checked os 5 .any (fun w args => (Rows.fnExactAppendChecksumSpec.pre enc Tryd.prog Tryd.f5 Rows.fnExactAppendChecksumRow.domain false w args ∧ laidMetH Tryd.prog Rows.fnExactAppendChecksumRow.laid w) ∧ sizedMet enc Tryd.prog Tryd.f5 (OpenSpec.ofChange Rows.fnExactAppendChecksumSpec) false w args)
      (Rows.fnExactAppendChecksumSpec.post enc Tryd.prog Tryd.f5 false true false false) := by
  refine returnsInHanded_of_change_and (C := Tryd.checked) (X := fun w _ => laidMetH Tryd.prog Rows.fnExactAppendChecksumRow.laid w) (fun _ _ _ hh h => h.of_heap hh) own started (by kernel_rfl) Tryd.func5
    (ChangeSpec.witness_shaped (enc := enc) (C := Tryd.checked) (os := os) (X := fun w _ => laidMetH Tryd.prog Rows.fnExactAppendChecksumRow.laid w) false (World.laidAll Tryd.prog os Rows.fnExactAppendChecksumRow.laid) #[.string ⟨#[]⟩] 8 (World.laidAll_os _ _ _)
      (World.shaped_of_ZipB (by kernel_rfl) (by kernel_rfl)) (by kernel_rfl) (by kernel_rfl) (by kernel_rfl)
      (by rw [MakeChecks.laidMetH_plain _ _ _ (by kernel_rfl)]; exact laidMet_laidAll _ (by kernel_rfl) (by kernel_rfl))) ?_
  intro W base args ds gs before hval0 hW hc _ hL _
  have hval : ∀ (j : Nat) t v, Tryd.f5.params[j]? = some t → args[j]? = some v → Value.okWide Tryd.prog W .any base t v := hval0
  have hW' := hW
  obtain ⟨p, q, hA0, hV, rfl, hfz, hnd⟩ := hW
  have hA : DataW.TrodAll enc Tryd.prog W 0 (fun _ => true) true Tryd.f5.params.toList args.toList ds p := hA0
  rw [Tryd.params5] at hA hval
  obtain ⟨v0, d0, rfl, rfl, h0⟩ := trodAll_one hA
  obtain ⟨rfl, rfl⟩ := trodVars_none hV
  obtain ⟨x, rfl, _, _, bx⟩ := Go.ChangeMaps.open_string Tryd.underlying9 (hval 0 9 v0 rfl rfl) h0
  rw [MakeChecks.laidMetH_plain _ _ _ (by kernel_rfl)] at hL
  refine (lawA_any x bx W (tab_of hL)).mono fun e W' ⟨he, bel⟩ => ?_
  subst he
  exact ⟨_, rfl, law_post laidOut Tryd.underlying4 rfl (by intro t ht; rw [Tryd.params5] at ht; revert t; decide +kernel) rfl hW' rfl rfl rfl bel⟩
theorem closed : joinedFacts Tryd.prog 5 Tryd.f5 Rows.fnExactAppendChecksumSpec Rows.fnExactAppendChecksumRow = true := by
  unfold joinedFacts
  repeat' (with_reducible refine and_mk ?_ ?_)
  all_goals first | (with_reducible exact laidOut) | (with_reducible exact c_maps) | (with_reducible exact c_stops) | (with_reducible exact c_stopKnobs) | (with_reducible exact c_heard) | (with_reducible exact c_enter) | (rw [c_lifts]; rfl) | (rw [c_make]; rfl) | (as_aux_lemma => kernel_rfl)
theorem over : Rows.fnExactAppendChecksumRow.holds Tryd.pinned (OpenSpec.ofChange Rows.fnExactAppendChecksumSpec) :=
  OpenClaim.holds_of_wide 5 Tryd.f5 rfl rfl rfl rfl rfl rfl rfl ⟨rfl, rfl, rfl, rfl, rfl⟩ rfl rfl rfl rfl rfl (by as_aux_lemma => kernel_rfl) Tryd.func5 closed
    (of_decide_eq_true (by as_aux_lemma => kernel_rfl)) (by unfold Func.isWrapper; rw [if_neg (of_decide_eq_false (by as_aux_lemma => kernel_rfl))]; exact ⟨rfl, rfl⟩)
    (fun os started H enc _ => lifted os started H enc)
theorem proved : Rows.FnExactAppendChecksumCardSaid :=
  Claim7.holds_tied_plain_at .later [] [.data, .data, .data] true (true, "8fa7a104d39ba0b131fee230433ae811f773483b49eabd7620a2af3c04973219") true over (fun _ h => by cases h) (by kernel_rfl) (fun _ h => by cases h) fnExactAppendChecksum_row_tie rfl ⟨rfl, rfl⟩ (by kernel_rfl) rfl
    (fun f fn hf hfn => by
      obtain rfl : f = 5 := Option.some.inj ((show Tryd.prog.funcNamed "loop.example/g01210/laws.FnExactAppendChecksum" = some 5 by kernel_rfl).symm.trans hf) |>.symm
      obtain rfl : fn = Tryd.f5 := (Option.some.inj (Tryd.func5.symm.trans hfn)).symm
      exact ⟨by kernel_rfl, fun j t ht => by
        rw [Tryd.params5] at ht
        have hm : t ∈ [9] := by simpa using Array.mem_of_getElem? ht
        have hall : ([9].all fun u => !Tryd.prog.wantsStandIn u) = true := by kernel_rfl
        exact (show Tryd.prog.wantsStandIn t = false by simpa using List.all_eq_true.1 hall t hm)⟩)
    (by kernel_rfl)
#print axioms proved
end Go.Proofs.YthjfnfhadgmglaaDoor.lawAppendChecksum
