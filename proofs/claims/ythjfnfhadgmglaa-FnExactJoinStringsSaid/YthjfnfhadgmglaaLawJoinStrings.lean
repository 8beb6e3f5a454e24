/- The given statement of FnExactJoinStrings: for all arguments the program's JoinStrings returns what the reference's JoinStrings returns. No condition. -/
import Derived.Test.YthjfnfhadgmglaaClosed
import Derived.Test.YthjfnfhadgmglaaJoinU
import Derived.ChangeMaps5
set_option linter.unusedVariables false
set_option linter.unusedSimpArgs false
set_option linter.unusedSectionVars false
namespace Go.Proofs.Ythjfnfhadgmglaa.lawJoinStrings
open Go.ChangeShapes Go.WideShapes Go.ChangeAt Go.RowKit
theorem strs_of {w : World} {b n B : Nat} {x : Nat → ByteArray} (h : TxtBlk w b n x) (hB : B ≤ b) (hn : n ≤ maxLen) : Strs w B (some ⟨b, 0, none⟩) n n x := Strs.ofBlk hB (Nat.le_refl _) hn h (fun i hi => rfl)
set_option maxRecDepth 100000 in
set_option maxHeartbeats 1000000 in
theorem walk (w : World) (o : Option Addr) (n c : Nat) (x : Nat → ByteArray) (hn : n ≤ maxLen) (hx : ∀ i, (x i).size ≤ maxLen) (hnc : n ≤ c) (h : StrsAt w o n x) (sep : ByteArray) (hsep : sep.size ≤ maxLen) : Calls Try.prog 6 #[.slice o n c, .string sep] w fun e w' => e = .returned (.bool true) ∧ Below w.heap.size w w' := by
  have H := Lib.hid h; clear h
  by_cases g1 : sep.size ≤ 1048576
  · have d1 : decide ((1048576 : Int) < (sep.size : Int)) = false := by simp; omega
    have HSZ := Lib.hid (szStrs_any o n c x hn hx w H.out)
    by_cases g2 : n + szs x n ≤ 1048576
    · have hs : n ≤ 1048576 := by omega
      obtain ⟨z, hz⟩ : ∃ z : Nat, z = 1048576 - (n + szs x n) := ⟨_, rfl⟩
      have hz2 : szV n x = (z : Int) := by unfold szV; rw [if_pos g2]; omega
      rw [hz2] at HSZ
      have d2 : decide ((z : Int) < 0) = false := by simp
      have SA := Lib.hid (fun b w h => sJoin_any b n x sep g2 w h)
      have IA := Lib.hid (fun b w h => iJoin_any b n x sep g2 w h)
      obtain ⟨v, hv⟩ : ∃ v, v = joinV n x sep := ⟨_, rfl⟩
      obtain ⟨j, hj⟩ : ∃ j, j = joinB n x sep := ⟨_, rfl⟩
      rw [← hv, ← hj] at SA IA
      clear hz hz2 hv hj g2
      go_enter Try.func6, Try.ntmps6
      go_wp2_with fail
      go_at_call 11
      refine HSZ.out.mono ?_
      rintro e w' ⟨rfl, rfl⟩
      go_wp2_with fail
      go_at_call 13
      refine (toStrs_any o n c x hs _ H.out).mono ?_
      rintro e w1 ⟨rfl, hp1, hb1⟩
      have P1 := Lib.hid hp1
      have HB1 := Lib.hid hb1
      clear hb1 hp1
      go_wp2_with fail
      go_at_call 12
      refine (SA.out _ _ P1.out).mono ?_
      rintro e w2 ⟨rfl, hb2⟩
      have HB2 := Lib.hid (HB1.out.trans (hb2.mono HB1.out.size))
      clear hb2
      go_wp2_with fail
      go_at_call 13
      refine (toStrs_any o n c x hs _ (H.out.below HB2.out)).mono ?_
      rintro e w3 ⟨rfl, hp3, hb3⟩
      have X_3 := Lib.hid hp3
      have HB3 := Lib.hid (HB2.out.trans (hb3.mono HB2.out.size))
      clear hb3 hp3
      go_wp2_with fail
      go_at_call 14
      refine (IA.out _ _ X_3.out).mono ?_
      rintro e w4 ⟨rfl, hb4⟩
      have X_4 := Lib.hid (X_3.out.below hb4 X_3.out.lt)
      have HB4 := Lib.hid (HB3.out.trans (hb4.mono HB3.out.size))
      clear hb4
      go_wp2_with fail
      go_at_call 13
      refine (toStrs_any o n c x hs _ (H.out.below HB4.out)).mono ?_
      rintro e w5 ⟨rfl, hp5, hb5⟩
      have X_5 := Lib.hid (X_4.out.below hb5 X_4.out.lt)
      have P5 := Lib.hid hp5
      have HB5 := Lib.hid (HB4.out.trans (hb5.mono HB4.out.size))
      clear hb5 hp5
      go_wp2_with fail
      go_at_call 15
      refine (eqStrs_any _ _ n n n 0 0 x (by omega) _ (strs_of X_5.out (Nat.zero_le _) hn) (strs_of P5.out (Nat.zero_le _) hn)).mono ?_
      rintro e w6 ⟨rfl, hb6⟩
      have HB6 := Lib.hid (HB5.out.trans (hb6.mono HB5.out.size))
      clear hb6
      go_wp2
      go_ret
      exact ⟨rfl, HB6.out⟩
    · rw [show szV n x = -1 by unfold szV; exact if_neg g2] at HSZ
      clear g2
      go_enter Try.func6, Try.ntmps6
      go_wp2_with fail
      go_at_call 11
      refine HSZ.out.mono ?_
      rintro e w' ⟨rfl, rfl⟩
      go_wp2
      go_ret
      exact ⟨rfl, Below.refl _ _⟩
  · have d1 : decide ((1048576 : Int) < (sep.size : Int)) = true := by simp; omega
    go_enter Try.func6, Try.ntmps6
    go_wp2
    go_ret
    exact ⟨rfl, Below.refl _ _⟩
set_option maxRecDepth 100000 in
theorem lifted (os : Os) (started : os.Started) (H : Type) (enc : TypeId × Value → H) :
    ReturnsInHanded {} Try.checked os 6 .any (Rows.fnExactJoinStringsSpec.pre6 enc Try.prog Try.f6 Rows.fnExactJoinStringsRow.domain false) (Rows.fnExactJoinStringsSpec.post enc Try.prog Try.f6 false true false false) := by
  refine returnsInHanded_of_change (C := Try.checked) own started (by kernel_rfl) Try.func6
    (ChangeSpec.witness6 (enc := enc) (C := Try.checked) false ⟨#[], #[.slice none 0 0, .string ⟨#[]⟩], []⟩ 8 (by kernel_rfl) (by kernel_rfl) (by kernel_rfl) (by kernel_rfl)) ?_
  intro W base args ds gs before hval0 hW hcnd _
  have hval : ∀ (j : Nat) t v, Try.f6.params[j]? = some t → args[j]? = some v → Value.okWide Try.prog W .any base t v := hval0
  have hW' := hW
  obtain ⟨p, q, hA0, hV, rfl, hfz, hnd⟩ := hW
  have hA : DataW.TrodAll enc Try.prog W 0 (fun _ => true) true Try.f6.params.toList args.toList ds p := hA0
  rw [Try.params6] at hA hval
  obtain ⟨v0, vs0, d0, ds0, p0, q0, hargs, rfl, rfl, h0, r0⟩ := trodAll_cons hA
  obtain ⟨v1, vs1, d1, ds1, p1, q1, rfl, rfl, rfl, h1, r1⟩ := trodAll_cons r0
  obtain ⟨rfl, rfl, rfl⟩ := trodAll_nil r1
  obtain rfl : args = #[v0, v1] := by cases args; simp_all
  obtain ⟨rfl, rfl⟩ := trodVars_none hV
  obtain ⟨o0, n0, c0, x0, rfl, b0, s0, l0, k0⟩ := open_strings (hval 0 27 v0 rfl rfl) h0
  obtain ⟨x1, rfl, _, _, b1⟩ := Go.ChangeMaps.open_string Try.underlying9 (hval 1 9 v1 rfl rfl) h1
  clear hA0 hval0
  refine (walk W o0 n0 c0 x0 b0 s0 l0 k0 x1 b1).mono fun e W' ⟨he, bel⟩ => ?_
  subst he
  exact ⟨_, rfl, law_post laidOut Try.underlying4 rfl (by intro t ht; rw [Try.params6] at ht; revert t; decide +kernel) rfl hW' rfl rfl rfl bel⟩

theorem closed : joinedFacts Try.prog 6 Try.f6 Rows.fnExactJoinStringsSpec Rows.fnExactJoinStringsRow = true := by
  unfold joinedFacts
  repeat' (with_reducible refine and_mk ?_ ?_)
  all_goals first | (with_reducible exact laidOut) | (with_reducible exact c_maps) | (with_reducible exact c_stops) | (with_reducible exact c_stopKnobs) | (with_reducible exact c_heard) | (with_reducible exact c_enter) | (rw [c_lifts]; rfl) | (rw [c_make]; rfl) | (as_aux_lemma => kernel_rfl)

theorem over : Rows.fnExactJoinStringsRow.holds Try.pinned (OpenSpec.ofChange Rows.fnExactJoinStringsSpec) :=
  OpenClaim.holds_of_wide 6 Try.f6 rfl rfl rfl rfl rfl rfl rfl ⟨rfl, rfl, rfl, rfl, rfl⟩ rfl rfl rfl rfl rfl (by as_aux_lemma => kernel_rfl) Try.func6 closed
    (of_decide_eq_true (by as_aux_lemma => kernel_rfl)) (by unfold Func.isWrapper; rw [if_neg (of_decide_eq_false (by as_aux_lemma => kernel_rfl))]; exact ⟨rfl, rfl⟩)
    (fun os started H enc _ => lifted os started H enc)

theorem proved : Rows.FnExactJoinStringsSaid := over
#print axioms proved
end Go.Proofs.Ythjfnfhadgmglaa.lawJoinStrings
