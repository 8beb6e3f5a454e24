/- The given statement of FnExactChanceToBeat: for all arguments the program's ChanceToBeat returns what the reference's ChanceToBeat returns. No condition. -/
import Derived.Test.YtiibpnhjdfjdkaaClosed
import Derived.Test.YtiibpnhjdfjdkaaFramePool
import Derived.Test.YtiibpnhjdfjdkaaPool3
import Derived.Test.YtiibpnhjdfjdkaaSz
import Derived.Test.YtiibpnhjdfjdkaaLevel2
set_option linter.unusedVariables false
set_option linter.unusedSimpArgs false
set_option linter.unusedSectionVars false
namespace Go.Proofs.Ytiibpnhjdfjdkaa.lawChanceToBeat
open Go.ChangeShapes Go.WideShapes Go.ChangeAt Go.RowKit

set_option maxRecDepth 100000 in
set_option maxHeartbeats 1000000 in
theorem walk (w : World) (o : Option Addr) (n c : Nat) (x : Nat → Nat → Int) (hn : n ≤ maxLen) (h : PoolAt w o n x) (o' : Option Addr) (m c' : Nat) (y : Nat → Nat → Int) (hm : m ≤ maxLen) (h' : PoolAt w o' m y) : Calls Try.prog 11 #[poolV o n c, poolV o' m c'] w fun e w' => e = .returned (.bool true) ∧ Below w.heap.size w w' := by
  have H := Lib.hid h; clear h
  have H' := Lib.hid h'; clear h'
  by_cases hs : n ≤ 1048576
  · have d1 : decide ((1048576 : Int) - (n : Int) < 0) = false := by simp; omega
    by_cases hr : (m : Int) ≤ 1048576 - (n : Int)
    · have hq : m ≤ 1048576 := by omega
      have d2 : decide ((1048576 : Int) - (n : Int) - (m : Int) < 0) = false := by simp; omega
      go_enter Try.func11, Try.ntmps11
      go_wp2_with fail
      go_at_call 19
      refine (szPool_ok o n c hs _).mono ?_
      rintro e w' ⟨rfl, rfl⟩
      go_wp2_with fail
      go_at_call 19
      refine (szPool_left o' m c' (1048576 - (n : Int)) (by omega) hr _).mono ?_
      rintro e w' ⟨rfl, rfl⟩
      go_wp2_with fail
      go_at_call 21
      refine (toPool_any o n c x hs _ H.out).mono ?_
      rintro e w1 ⟨o1, rfl, hp1, hb1⟩
      have P_1 := Lib.hid hp1
      have HB1 := Lib.hid hb1; clear hb1 hp1
      have Q_1 := P_1
      go_wp2_with fail
      go_at_call 21
      refine (toPool_any o' m c' y hq _ (H'.out.below HB1.out)).mono ?_
      rintro e w2 ⟨o2, rfl, hp2, hb2⟩
      have P_2 := Lib.hid hp2
      have Q_2 := Lib.hid (Q_1.out.below hb2)
      have HB2 := Lib.hid (HB1.out.trans (hb2.mono HB1.out.size)); clear hb2 hp2
      go_wp2_with fail
      go_at_call 42
      refine (sChanceToBeat_any o1 n n x hs o2 m m y hq _ Q_2.out P_2.out).mono ?_
      rintro e w3 ⟨rfl, hb3⟩
      have HB3 := Lib.hid (HB2.out.trans (hb3.mono HB2.out.size)); clear hb3
      go_wp2_with (first | (refine wpList_alloc_blk rfl 43 rfl zero2 ?_) | (refine wpList_store_new rfl 43 _ _ rfl rfl rfl (by first | rfl | (simp; done)) sz2 (fun _ _ => rfl) ?_) | fail)
      generalize hW0 : w3.alloc (.cells (row 2 (I (toBeatV n x m y))) 43) = W3
      have V_3 := Lib.hid (show Blk W3 w3.heap.size 2 43 (I (toBeatV n x m y)) from hW0 ▸ Blk.new _ _ _ _)
      have HB3 := Lib.hid (show Below w.heap.size w W3 from hW0 ▸ HB3.out.alloc HB3.out.size _)
      clear hW0
      go_at_call 21
      refine (toPool_any o n c x hs _ (H.out.below HB3.out)).mono ?_
      rintro e w4 ⟨o4, rfl, hp4, hb4⟩
      have P_4 := Lib.hid hp4
      have V_4 := Lib.hid (V_3.out.below hb4 V_3.out.lt)
      have HB4 := Lib.hid (HB3.out.trans (hb4.mono HB3.out.size)); clear hb4 hp4
      have Q_4 := P_4
      go_wp2_with fail
      go_at_call 21
      refine (toPool_any o' m c' y hq _ (H'.out.below HB4.out)).mono ?_
      rintro e w5 ⟨o5, rfl, hp5, hb5⟩
      have P_5 := Lib.hid hp5
      have Q_5 := Lib.hid (Q_4.out.below hb5)
      have V_5 := Lib.hid (V_4.out.below hb5 V_4.out.lt)
      have HB5 := Lib.hid (HB4.out.trans (hb5.mono HB4.out.size)); clear hb5 hp5
      have R_5 := P_5
      go_wp2_with fail
      go_at_call 43
      refine (iChanceToBeat_any o4 n n x hs o5 m m y hq _ Q_5.out R_5.out).mono ?_
      rintro e w6 ⟨rfl, hb6⟩
      have Q_6 := Lib.hid (Q_5.out.below hb6)
      have R_6 := Lib.hid (R_5.out.below hb6)
      have V_6 := Lib.hid (V_5.out.below hb6 V_5.out.lt)
      have HB6 := Lib.hid (HB5.out.trans (hb6.mono HB5.out.size)); clear hb6
      go_wp2_with (first | (refine wpList_alloc_blk rfl 43 rfl zero2 ?_) | (refine wpList_store_new rfl 43 _ _ rfl rfl rfl (by first | rfl | (simp; done)) sz2 (fun _ _ => rfl) ?_) | (refine wpList_load_blk rfl 43 _ rfl (Blk.new _ _ _ _) rfl Try.underlying43 sz2 ?_) | (refine wpList_load_blk rfl 43 _ rfl ((V_6.out.alloc _)) rfl Try.underlying43 sz2 ?_) | fail)
      go_at_call 34
      refine (eqA2_any _ _).mono ?_
      rintro e w7 ⟨rfl, hb7⟩
      have Q_7 := Lib.hid ((Q_6.out.alloc _).below hb7)
      have R_7 := Lib.hid ((R_6.out.alloc _).below hb7)
      have HB7 := Lib.hid (Below.trans (HB6.out.alloc (by have := HB6.out.size; omega) _) (hb7.mono (by have := HB6.out.size; simp; omega))); clear hb7
      go_wp2_with fail
      go_at_call 21
      refine (toPool_any o n c x hs _ (H.out.below HB7.out)).mono ?_
      rintro e w8 ⟨o8, rfl, hp8, hb8⟩
      have P_8 := Lib.hid hp8
      have Q_8 := Lib.hid (Q_7.out.below hb8)
      have R_8 := Lib.hid (R_7.out.below hb8)
      have HB8 := Lib.hid (HB7.out.trans (hb8.mono HB7.out.size)); clear hb8 hp8
      go_wp2_with fail
      go_at_call 23
      refine (eqPool_any o4 o8 n n n x hs _ Q_8.out P_8.out).mono ?_
      rintro e w9 ⟨rfl, hb9⟩
      have R_9 := Lib.hid (R_8.out.below hb9)
      have HB9 := Lib.hid (HB8.out.trans (hb9.mono HB8.out.size)); clear hb9
      go_wp2_with fail
      go_at_call 21
      refine (toPool_any o' m c' y hq _ (H'.out.below HB9.out)).mono ?_
      rintro e w10 ⟨o10, rfl, hp10, hb10⟩
      have P_10 := Lib.hid hp10
      have R_10 := Lib.hid (R_9.out.below hb10)
      have HB10 := Lib.hid (HB9.out.trans (hb10.mono HB9.out.size)); clear hb10 hp10
      go_wp2_with fail
      go_at_call 23
      refine (eqPool_any o5 o10 m m m y hq _ R_10.out P_10.out).mono ?_
      rintro e w11 ⟨rfl, hb11⟩
      have HB11 := Lib.hid (HB10.out.trans (hb11.mono HB10.out.size)); clear hb11
      go_wp2
      go_ret
      exact ⟨rfl, HB11.out⟩
    · go_enter Try.func11, Try.ntmps11
      go_wp2_with fail
      go_at_call 19
      refine (szPool_ok o n c hs _).mono ?_
      rintro e w' ⟨rfl, rfl⟩
      go_wp2_with fail
      go_at_call 19
      refine (szPool_over o' m c' (1048576 - (n : Int)) (by omega) (by omega) hm _).mono ?_
      rintro e w' ⟨rfl, rfl⟩
      go_wp2
      go_ret
      exact ⟨rfl, Below.refl _ _⟩
  · go_enter Try.func11, Try.ntmps11
    go_wp2_with (first | (go_at_call 19; refine (szPool_big o n c hs hn _).mono ?_; rintro e w' ⟨rfl, rfl⟩) | fail)
    go_ret
    exact ⟨rfl, Below.refl _ _⟩

set_option maxRecDepth 100000 in
theorem lifted (os : Os) (started : os.Started) (H : Type) (enc : TypeId × Value → H) :
    ReturnsInHanded {} Try.checked os 11 .any (Rows.fnExactChanceToBeatSpec.pre6 enc Try.prog Try.f11 Rows.fnExactChanceToBeatRow.domain false) (Rows.fnExactChanceToBeatSpec.post enc Try.prog Try.f11 false true false false) := by
  refine returnsInHanded_of_change (C := Try.checked) own started (by kernel_rfl) Try.func11
    (ChangeSpec.witness6 (enc := enc) (C := Try.checked) false ⟨#[], #[.slice none 0 0, .slice none 0 0], []⟩ 8 (by kernel_rfl) (by kernel_rfl) (by kernel_rfl) (by kernel_rfl)) ?_
  intro W base args ds gs before hval0 hW hcnd _
  have hval : ∀ (j : Nat) t v, Try.f11.params[j]? = some t → args[j]? = some v → Value.okWide Try.prog W .any base t v := hval0
  have hW' := hW
  obtain ⟨p, q, hA0, hV, rfl, hfz, hnd⟩ := hW
  have hA : DataW.TrodAll enc Try.prog W 0 (fun _ => true) true Try.f11.params.toList args.toList ds p := hA0
  rw [Try.params11] at hA hval
  obtain ⟨v0, vs0, d0, ds0, p0, q0, hargs, rfl, rfl, h0, r0⟩ := trodAll_cons hA
  obtain ⟨v1, vs1, d1, ds1, p1, q1, rfl, rfl, rfl, h1, r1⟩ := trodAll_cons r0
  obtain ⟨rfl, rfl, rfl⟩ := trodAll_nil r1
  obtain rfl : args = #[v0, v1] := by cases args; simp_all
  obtain ⟨rfl, rfl⟩ := trodVars_none hV
  obtain ⟨o0, n0, c0, x0, rfl, b0, k0⟩ := open_pool (hval 0 30 v0 rfl rfl) h0
  obtain ⟨o1, n1, c1, x1, rfl, b1, k1⟩ := open_pool (hval 1 30 v1 rfl rfl) h1
  clear hA0 hval0
  refine (walk W o0 n0 c0 x0 b0 k0 o1 n1 c1 x1 b1 k1).mono fun e W' ⟨he, bel⟩ => ?_
  subst he
  exact ⟨_, rfl, law_post laidOut Try.underlying4 rfl (by intro t ht; rw [Try.params11] at ht; revert t; decide +kernel) rfl hW' rfl rfl rfl bel⟩

theorem closed : joinedFacts Try.prog 11 Try.f11 Rows.fnExactChanceToBeatSpec Rows.fnExactChanceToBeatRow = true := by
  unfold joinedFacts
  repeat' (with_reducible refine and_mk ?_ ?_)
  all_goals first | (with_reducible exact laidOut) | (with_reducible exact c_maps) | (with_reducible exact c_stops) | (with_reducible exact c_stopKnobs) | (with_reducible exact c_heard) | (with_reducible exact c_enter) | (rw [c_lifts]; rfl) | (rw [c_make]; rfl) | (as_aux_lemma => kernel_rfl)

theorem over : Rows.fnExactChanceToBeatRow.holds Try.pinned (OpenSpec.ofChange Rows.fnExactChanceToBeatSpec) :=
  OpenClaim.holds_of_wide 11 Try.f11 rfl rfl rfl rfl rfl rfl rfl ⟨rfl, rfl, rfl, rfl, rfl⟩ rfl rfl rfl rfl rfl (by as_aux_lemma => kernel_rfl) Try.func11 closed
    (of_decide_eq_true (by as_aux_lemma => kernel_rfl)) (by unfold Func.isWrapper; rw [if_neg (of_decide_eq_false (by as_aux_lemma => kernel_rfl))]; exact ⟨rfl, rfl⟩)
    (fun os started H enc _ => lifted os started H enc)

theorem proved : Rows.FnExactChanceToBeatSaid := over
#print axioms proved
end Go.Proofs.Ytiibpnhjdfjdkaa.lawChanceToBeat
