/- The given statement of FnExactRingsOf: for all arguments the program's RingsOf returns what the reference's RingsOf returns. No condition. -/
import Derived.Test.YtbfhfadfjgfmaaaClosed
import Derived.Test.YtbfhfadfjgfmaaaFramePool
import Derived.Test.YtbfhfadfjgfmaaaPools
import Derived.Test.YtbfhfadfjgfmaaaGrid2
import Derived.Test.YtbfhfadfjgfmaaaRgU
set_option linter.unusedVariables false
set_option linter.unusedSimpArgs false
set_option linter.unusedSectionVars false
namespace Go.Proofs.Ytbfhfadfjgfmaaa.lawRingsOf
open Go.ChangeShapes Go.WideShapes Go.ChangeAt Go.RowKit

set_option maxRecDepth 100000 in
set_option maxHeartbeats 4000000 in
theorem walk (w : World) (o : Option Addr) (n c : Nat) (x : Nat → Nat → Int) (hn : n ≤ maxLen) (h : PoolAt w o n x) : Calls Try.prog 8 #[poolV o n c] w fun e w' => e = .returned (.bool true) ∧ Below w.heap.size w w' := by
  have H := Lib.hid h; clear h
  by_cases hs : n ≤ 1048576
  · have d1 : decide ((1048576 : Int) - (n : Int) < 0) = false := by simp; omega
    have d2 : decide (((n * 6 : Nat) : Int) + 1 < 0) = false := by simp; omega
    obtain ⟨M1, L1⟩ := rgX n x
    have SA := Lib.hid (fun o c w h => sRingsOf_any o n c x hs w h)
    have IA := Lib.hid (fun o c w h => iRingsOf_any o n c x hs w h)
    obtain ⟨M, hM⟩ : ∃ M, M = rgN n x := ⟨_, rfl⟩
    obtain ⟨len, hlen⟩ : ∃ len : Nat → Nat, len = gLen (rgL n x) := ⟨_, rfl⟩
    obtain ⟨f, hf⟩ : ∃ f : Nat → Nat → Int, f = gF (rgL n x) := ⟨_, rfl⟩
    rw [← hM] at SA IA M1 L1
    rw [← hlen] at SA IA L1
    rw [← hf] at SA IA
    have L1 := Lib.hid L1
    clear hM hlen hf
    obtain ⟨O, hO⟩ : ∃ O, O = offL len M := ⟨_, rfl⟩
    have MK := Lib.hid (fun o c B ad f w h1 h2 => markGrid_any o M c B ad len f M1 L1.out w h1 h2)
    have HK := Lib.hid (fun o c B ad w h => heldGrid_any o M c B ad len M1 L1.out w h)
    rw [← hO] at MK HK
    have d3 : decide ((O : Int) < 0) = false := by simp
    have d4 : ((O : Int) != (O : Int)) = false := by simp
    clear hO
    go_enter Try.func8, Try.ntmps8
    go_wp2_with fail
    go_at_call 10
    refine (szPool_ok o n c hs _).mono ?_
    rintro e w' ⟨rfl, rfl⟩
    go_wp2_with fail
    go_at_call 12
    refine (toPool_any o n c x hs _ H.out).mono ?_
    rintro e w1 ⟨o1, rfl, hp1, hb1⟩
    have P1 := Lib.hid hp1
    have HB1 := Lib.hid hb1
    clear hb1 hp1
    go_wp2_with fail
    go_at_call 31
    refine (SA.out o1 n _ P1.out).mono ?_
    rintro e w2 ⟨s2, c2, as2, rfl, hS2, hb2⟩
    have S_2 := Lib.hid hS2
    have HB2 := Lib.hid (HB1.out.trans (hb2.mono HB1.out.size))
    have Z2 := Lib.hid HB2.out.size
    clear hb2 hS2
    go_wp2_with fail
    go_at_call 12
    refine (toPool_blk o n c x hs _ (H.out.below HB2.out)).mono ?_
    rintro e w3 ⟨rfl, hp3, hb3⟩
    have X_3 := Lib.hid hp3
    have S_3 := Lib.hid (S_2.out.below hb3)
    have Z3 := Lib.hid (show w2.heap.size < w3.heap.size from Blk.lt hp3)
    have HB3 := Lib.hid (HB2.out.trans (hb3.mono HB2.out.size))
    clear hb3 hp3
    go_wp2_with fail
    go_at_call 32
    refine (IA.out _ n _ X_3.out.at_).mono ?_
    rintro e w4 ⟨g4, c4, ag4, rfl, hG4, hb4⟩
    have G_4 := Lib.hid hG4
    have S_4 := Lib.hid (S_3.out.below hb4)
    have X_4 := Lib.hid (X_3.out.below hb4 (Blk.lt X_3.out))
    have HB4 := Lib.hid (HB3.out.trans (hb4.mono HB3.out.size))
    have W34 := Lib.hid (show w3.heap.size ≤ w4.heap.size by have := hb4.size; omega)
    clear hb4 hG4
    go_wp2_with fail
    go_at_call 33
    refine (eqGrid_any g4 s2 M c4 c2 _ _ ag4 as2 len f M1 L1.out _ G_4.out S_4.out).mono ?_
    rintro e w5 ⟨rfl, hb5⟩
    have S_5 := Lib.hid (S_4.out.below hb5)
    have G_5 := Lib.hid (G_4.out.below hb5)
    have X_5 := Lib.hid (X_4.out.below hb5 (Blk.lt X_4.out))
    have HB5 := Lib.hid (HB4.out.trans (hb5.mono HB4.out.size))
    have W35 := Lib.hid (show w3.heap.size ≤ w5.heap.size by have := W34.out; have := hb5.size; omega)
    clear hb5
    go_wp2_with fail
    go_at_call 12
    refine (toPool_any o n c x hs _ (H.out.below HB5.out)).mono ?_
    rintro e w6 ⟨o6, rfl, hp6, hb6⟩
    have P6 := Lib.hid hp6
    have S_6 := Lib.hid (S_5.out.below hb6)
    have G_6 := Lib.hid (G_5.out.below hb6)
    have X_6 := Lib.hid (X_5.out.below hb6 (Blk.lt X_5.out))
    have HB6 := Lib.hid (HB5.out.trans (hb6.mono HB5.out.size))
    have W36 := Lib.hid (show w3.heap.size ≤ w6.heap.size by have := W35.out; have := hb6.size; omega)
    clear hb6 hp6
    go_wp2_with fail
    go_at_call 14
    refine (eqPool_any _ o6 n n n x hs _ X_6.out.at_ P6.out).mono ?_
    rintro e w7 ⟨rfl, hb7⟩
    have S_7 := Lib.hid (S_6.out.below hb7)
    have G_7 := Lib.hid (G_6.out.below hb7)
    have X_7 := Lib.hid (X_6.out.below hb7 (Blk.lt X_6.out))
    have HB7 := Lib.hid (HB6.out.trans (hb7.mono HB6.out.size))
    have W37 := Lib.hid (show w3.heap.size ≤ w7.heap.size by have := W36.out; have := hb7.size; omega)
    clear hb7
    go_wp2_with fail
    go_at_call 15
    refine (markPool_any _ n x hs _ X_7.out).mono ?_
    rintro e w8 ⟨rfl, hg8⟩
    have S_8 := Lib.hid (S_2.out.out (.inr (Nat.le_refl _)) hg8 S_7.out)
    have G_8 := Lib.hid (G_4.out.out (.inl Z3.out) hg8 G_7.out)
    have HB8 := Lib.hid (below_grown HB7.out hg8 (fun g e => by injection e with e; have := Z2.out; omega) HB7.out.size)
    have Z8 := Lib.hid (show w3.heap.size ≤ w8.heap.size by have := hg8.size; have := W37.out; omega)
    clear hg8
    go_wp2_with fail
    go_at_call 33
    refine (eqGrid_any g4 s2 M c4 c2 _ _ ag4 as2 len f M1 L1.out _ G_8.out S_8.out).mono ?_
    rintro e w9 ⟨rfl, hb9⟩
    have S_9 := Lib.hid (S_8.out.below hb9)
    have G_9 := Lib.hid (G_8.out.below hb9)
    have HB9 := Lib.hid (HB8.out.trans (hb9.mono HB8.out.size))
    have Z9 := Lib.hid (Nat.le_trans Z8.out hb9.size)
    clear hb9
    go_wp2_with fail
    go_at_call 34
    refine (MK.out g4 c4 _ ag4 f _ Z9.out G_9.out).mono ?_
    rintro e w10 ⟨rfl, hG10, hb10⟩
    have S_10 := Lib.hid (Grid.keptB S_2.out S_9.out hb10 (by have := Z3.out; omega))
    have G_10 := Lib.hid hG10
    have HB10 := Lib.hid (HB9.out.trans (hb10.mono (by have := Z2.out; have := Z3.out; omega)))
    clear hb10 hG10
    go_wp2_with fail
    go_at_call 35
    refine (HK.out g4 c4 _ ag4 _ G_10.out).mono ?_
    rintro e w' ⟨rfl, rfl⟩
    go_wp2_with fail
    go_at_call 12
    refine (toPool_any o n c x hs _ (H.out.below HB10.out)).mono ?_
    rintro e w11 ⟨o11, rfl, hp11, hb11⟩
    have P11 := Lib.hid hp11
    have S_11 := Lib.hid (S_10.out.below hb11)
    have G_11 := Lib.hid (G_10.out.below hb11)
    have HB11 := Lib.hid (HB10.out.trans (hb11.mono HB10.out.size))
    clear hb11 hp11
    go_wp2_with fail
    go_at_call 32
    refine (IA.out o11 n _ P11.out).mono ?_
    rintro e w12 ⟨h12, c12, ah12, rfl, hR12, hb12⟩
    have R_12 := Lib.hid hR12
    have S_12 := Lib.hid (S_11.out.below hb12)
    have G_12 := Lib.hid (G_11.out.below hb12)
    have HB12 := Lib.hid (HB11.out.trans (hb12.mono HB11.out.size))
    clear hb12 hR12
    go_wp2_with fail
    go_at_call 33
    refine (eqGrid_any h12 s2 M c12 c2 _ _ ah12 as2 len f M1 L1.out _ R_12.out S_12.out).mono ?_
    rintro e w13 ⟨rfl, hb13⟩
    have G_13 := Lib.hid (G_12.out.below hb13)
    have HB13 := Lib.hid (HB12.out.trans (hb13.mono HB12.out.size))
    clear hb13
    go_wp2_with fail
    go_at_call 35
    refine (HK.out g4 c4 _ ag4 _ G_13.out).mono ?_
    rintro e w' ⟨rfl, rfl⟩
    go_wp2
    go_ret
    exact ⟨rfl, HB13.out⟩
  · go_enter Try.func8, Try.ntmps8
    go_wp2_with (first | (go_at_call 10; refine (szPool_big o n c hs hn _).mono ?_; rintro e w' ⟨rfl, rfl⟩) | fail)
    go_ret
    exact ⟨rfl, Below.refl _ _⟩

set_option maxRecDepth 100000 in
theorem lifted (os : Os) (started : os.Started) (H : Type) (enc : TypeId × Value → H) :
    ReturnsInHanded {} Try.checked os 8 .any (Rows.fnExactRingsOfSpec.pre6 enc Try.prog Try.f8 Rows.fnExactRingsOfRow.domain false) (Rows.fnExactRingsOfSpec.post enc Try.prog Try.f8 false true false false) := by
  refine returnsInHanded_of_change (C := Try.checked) own started (by kernel_rfl) Try.func8
    (ChangeSpec.witness6 (enc := enc) (C := Try.checked) false ⟨#[], #[.slice none 0 0], []⟩ 8 (by kernel_rfl) (by kernel_rfl) (by kernel_rfl) (by kernel_rfl)) ?_
  intro W base args ds gs before hval0 hW hcnd _
  have hval : ∀ (j : Nat) t v, Try.f8.params[j]? = some t → args[j]? = some v → Value.okWide Try.prog W .any base t v := hval0
  have hW' := hW
  obtain ⟨p, q, hA0, hV, rfl, hfz, hnd⟩ := hW
  have hA : DataW.TrodAll enc Try.prog W 0 (fun _ => true) true Try.f8.params.toList args.toList ds p := hA0
  rw [Try.params8] at hA hval
  obtain ⟨v0, vs0, d0, ds0, p0, q0, hargs, rfl, rfl, h0, r0⟩ := trodAll_cons hA
  obtain ⟨rfl, rfl, rfl⟩ := trodAll_nil r0
  obtain rfl : args = #[v0] := by cases args; simp_all
  obtain ⟨rfl, rfl⟩ := trodVars_none hV
  obtain ⟨o0, n0, c0, x0, rfl, b0, k0⟩ := open_pool (hval 0 22 v0 rfl rfl) h0
  clear hA0 hval0
  refine (walk W o0 n0 c0 x0 b0 k0).mono fun e W' ⟨he, bel⟩ => ?_
  subst he
  exact ⟨_, rfl, law_post laidOut Try.underlying4 rfl (by intro t ht; rw [Try.params8] at ht; revert t; decide +kernel) rfl hW' rfl rfl rfl bel⟩

theorem closed : joinedFacts Try.prog 8 Try.f8 Rows.fnExactRingsOfSpec Rows.fnExactRingsOfRow = true := by
  unfold joinedFacts
  repeat' (with_reducible refine and_mk ?_ ?_)
  all_goals first | (with_reducible exact laidOut) | (with_reducible exact c_maps) | (with_reducible exact c_stops) | (with_reducible exact c_stopKnobs) | (with_reducible exact c_heard) | (with_reducible exact c_enter) | (rw [c_lifts]; rfl) | (rw [c_make]; rfl) | (as_aux_lemma => kernel_rfl)

theorem over : Rows.fnExactRingsOfRow.holds Try.pinned (OpenSpec.ofChange Rows.fnExactRingsOfSpec) :=
  OpenClaim.holds_of_wide 8 Try.f8 rfl rfl rfl rfl rfl rfl rfl ⟨rfl, rfl, rfl, rfl, rfl⟩ rfl rfl rfl rfl rfl (by as_aux_lemma => kernel_rfl) Try.func8 closed
    (of_decide_eq_true (by as_aux_lemma => kernel_rfl)) (by unfold Func.isWrapper; rw [if_neg (of_decide_eq_false (by as_aux_lemma => kernel_rfl))]; exact ⟨rfl, rfl⟩)
    (fun os started H enc _ => lifted os started H enc)

theorem proved : Rows.FnExactRingsOfSaid := over
#print axioms proved
end Go.Proofs.Ytbfhfadfjgfmaaa.lawRingsOf
