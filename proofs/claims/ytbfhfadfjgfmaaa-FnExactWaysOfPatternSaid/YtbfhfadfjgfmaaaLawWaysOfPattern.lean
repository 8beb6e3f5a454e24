/- The given statement of FnExactWaysOfPattern: for all arguments the program's WaysOfPattern returns what the reference's WaysOfPattern returns. No condition. -/
import Derived.Test.YtbfhfadfjgfmaaaClosed
import Derived.Test.YtbfhfadfjgfmaaaFramePool
import Derived.Test.YtbfhfadfjgfmaaaPools
import Derived.Test.YtbfhfadfjgfmaaaInvP
import Derived.Test.YtbfhfadfjgfmaaaLate
set_option linter.unusedVariables false
set_option linter.unusedSimpArgs false
set_option linter.unusedSectionVars false
namespace Go.Proofs.Ytbfhfadfjgfmaaa.lawWaysOfPattern
open Go.ChangeShapes Go.WideShapes Go.ChangeAt Go.RowKit

set_option maxHeartbeats 1000000 in
theorem walk (w : World) (o : Option Addr) (n c : Nat) (x : Nat → Nat → Int) (hn : n ≤ maxLen) (h : PoolAt w o n x) (d : Nat → Int) : Calls Try.prog 5 #[poolV o n c, .agg (row 4 (I d))] w fun e w' => e = .returned (.bool true) ∧ Below w.heap.size w w' := by
  have H := Lib.hid h; clear h
  by_cases hz : n ≤ 1048576
  · have d1 : decide ((1048576 : Int) - (n : Int) < 0) = false := by simp; omega
    go_enter Try.func5, Try.ntmps5
    go_wp2_with (first | (go_at_call 10; refine (szPool_ok o n c hz _).mono ?_; rintro e w' ⟨rfl, rfl⟩) | fail)
    generalize hW0 : w.alloc (.cells (row 4 (I d)) 29) = W0
    have A0 := Lib.hid (show Blk W0 w.heap.size 4 29 (I d) from hW0 ▸ (Blk.new _ _ _ _))
    have P0 := Lib.hid (show PoolAt W0 o n x from hW0 ▸ (H.out.alloc _))
    have HB0 := Lib.hid (show Below w.heap.size w W0 from hW0 ▸ ((Below.refl w.heap.size w).alloc (by omega) _))
    clear hW0
    refine wp_region_steps (by kernel_rfl) (by kernel_rfl) (fun g : Option Addr => [(0, 17, poolV o n c), (1, 18, poolV g n n), (2, 19, .agg (row 4 (I d))), (3, 20, .agg (row 4 (I d))), (4, 21, .tuple #[.int .i64 (waysV n x d), .bool (waysB n x d)]), (5, 16, .tuple #[.int .i64 (waysV n x d), .bool (waysB n x d)]), (6, 22, .int .i64 (waysV n x d)), (7, 23, .bool (waysB n x d)), (8, 6, .int .i64 (waysV n x d)), (9, 7, .bool (waysB n x d))]) (WP _ 1 n x) none WP.init ?_ ?_
    · refine (And.intro (fun s g wv hW hs hp => ?_) (And.intro (fun s g wv hW hs hp => ?_) (And.intro (fun s g wv hW hs hp => ?_) (And.intro (fun s g wv hW hs hp => ?_) (And.intro (fun s g wv hW hs hp => ?_) (And.intro (fun s g wv hW hs hp => ?_) (And.intro (fun s g wv hW hs hp => ?_) (And.intro (fun s g wv hW hs hp => ?_) (And.intro (fun s g wv hW hs hp => ?_) (And.intro (fun s g wv hW hs hp => ?_) True.intro))))))))))
      · (try simp [waits, Region.binds, hs] at hp); (first | simp only [frm, List.foldl, Act.put, List.setIfInBounds_toArray, List.set_cons_succ, List.set_cons_zero, hs, hp, cond_true, cond_false] | simp only [frm, List.foldl, Act.put, List.setIfInBounds_toArray, List.set_cons_succ, List.set_cons_zero, hs, cond_true, cond_false]); have HW := Lib.hid hW; clear hW; go_wp2; refine ⟨g, by (first | simp [frm, Act.put, upd, hs, hp] | simp [frm, Act.put, upd, hs]), HW.out.keep (by decide)⟩
      · (try simp [waits, Region.binds, hs] at hp); (first | simp only [frm, List.foldl, Act.put, List.setIfInBounds_toArray, List.set_cons_succ, List.set_cons_zero, hs, hp, cond_true, cond_false] | simp only [frm, List.foldl, Act.put, List.setIfInBounds_toArray, List.set_cons_succ, List.set_cons_zero, hs, cond_true, cond_false]); have HW := Lib.hid hW; clear hW; go_wp2_with fail; go_at_call 12; refine (toPool_any o n c x hz _ (P0.out.below HW.out.1)).mono ?_; rintro e' w2 ⟨o2, rfl, hp2, hb2⟩; have HP2 := Lib.hid hp2; have HB2 := Lib.hid hb2; clear hp2 hb2; go_wp2; refine ⟨o2, by (first | simp [frm, Act.put, upd, hs, hp] | simp [frm, Act.put, upd, hs]), HW.out.made HB2.out HP2.out⟩
      · (try simp [waits, Region.binds, hs] at hp); (first | simp only [frm, List.foldl, Act.put, List.setIfInBounds_toArray, List.set_cons_succ, List.set_cons_zero, hs, hp, cond_true, cond_false] | simp only [frm, List.foldl, Act.put, List.setIfInBounds_toArray, List.set_cons_succ, List.set_cons_zero, hs, cond_true, cond_false]); have HW := Lib.hid hW; clear hW; refine wpList_load_blk rfl 29 _ rfl (A0.out.below HW.out.1 A0.out.lt) rfl Try.underlying29 sz4 ?_; go_wp2; refine ⟨g, by (first | simp [frm, Act.put, upd, hs, hp] | simp [frm, Act.put, upd, hs]), HW.out.keep (by decide)⟩
      · (try simp [waits, Region.binds, hs] at hp); (first | simp only [frm, List.foldl, Act.put, List.setIfInBounds_toArray, List.set_cons_succ, List.set_cons_zero, hs, hp, cond_true, cond_false] | simp only [frm, List.foldl, Act.put, List.setIfInBounds_toArray, List.set_cons_succ, List.set_cons_zero, hs, cond_true, cond_false]); have HW := Lib.hid hW; clear hW; go_wp2_with fail; go_at_call 21; refine (toA4_any d _).mono ?_; rintro e' w2 ⟨rfl, hb2⟩; have HB2 := Lib.hid hb2; clear hb2; go_wp2; refine ⟨g, by (first | simp [frm, Act.put, upd, hs, hp] | simp [frm, Act.put, upd, hs]), HW.out.call HB2.out (by decide)⟩
      · (try simp [waits, Region.binds, hs] at hp); (first | simp only [frm, List.foldl, Act.put, List.setIfInBounds_toArray, List.set_cons_succ, List.set_cons_zero, hs, hp, cond_true, cond_false] | simp only [frm, List.foldl, Act.put, List.setIfInBounds_toArray, List.set_cons_succ, List.set_cons_zero, hs, cond_true, cond_false]); have HW := Lib.hid hW; clear hW; go_wp2_with fail; go_at_call 20; refine (sWaysOfPattern_any g n n x hz d _ (HW.out.2 (by simp [hp]))).mono ?_; rintro e' w2 ⟨rfl, hb2⟩; have HB2 := Lib.hid hb2; clear hb2; go_wp2; refine ⟨g, by (first | simp [frm, Act.put, upd, hs, hp] | simp [frm, Act.put, upd, hs]), HW.out.call HB2.out (by decide)⟩
      · (try simp [waits, Region.binds, hs] at hp); (first | simp only [frm, List.foldl, Act.put, List.setIfInBounds_toArray, List.set_cons_succ, List.set_cons_zero, hs, hp, cond_true, cond_false] | simp only [frm, List.foldl, Act.put, List.setIfInBounds_toArray, List.set_cons_succ, List.set_cons_zero, hs, cond_true, cond_false]); have HW := Lib.hid hW; clear hW; go_wp2; refine ⟨g, by (first | simp [frm, Act.put, upd, hs, hp] | simp [frm, Act.put, upd, hs]), HW.out.keep (by decide)⟩
      · (try simp [waits, Region.binds, hs] at hp); (first | simp only [frm, List.foldl, Act.put, List.setIfInBounds_toArray, List.set_cons_succ, List.set_cons_zero, hs, hp, cond_true, cond_false] | simp only [frm, List.foldl, Act.put, List.setIfInBounds_toArray, List.set_cons_succ, List.set_cons_zero, hs, cond_true, cond_false]); have HW := Lib.hid hW; clear hW; go_wp2; refine ⟨g, by (first | simp [frm, Act.put, upd, hs, hp] | simp [frm, Act.put, upd, hs]), HW.out.keep (by decide)⟩
      · (try simp [waits, Region.binds, hs] at hp); (first | simp only [frm, List.foldl, Act.put, List.setIfInBounds_toArray, List.set_cons_succ, List.set_cons_zero, hs, hp, cond_true, cond_false] | simp only [frm, List.foldl, Act.put, List.setIfInBounds_toArray, List.set_cons_succ, List.set_cons_zero, hs, cond_true, cond_false]); have HW := Lib.hid hW; clear hW; go_wp2; refine ⟨g, by (first | simp [frm, Act.put, upd, hs, hp] | simp [frm, Act.put, upd, hs]), HW.out.keep (by decide)⟩
      · (try simp [waits, Region.binds, hs] at hp); (first | simp only [frm, List.foldl, Act.put, List.setIfInBounds_toArray, List.set_cons_succ, List.set_cons_zero, hs, hp, cond_true, cond_false] | simp only [frm, List.foldl, Act.put, List.setIfInBounds_toArray, List.set_cons_succ, List.set_cons_zero, hs, cond_true, cond_false]); have HW := Lib.hid hW; clear hW; go_wp2; refine ⟨g, by (first | simp [frm, Act.put, upd, hs, hp] | simp [frm, Act.put, upd, hs]), HW.out.keep (by decide)⟩
      · (try simp [waits, Region.binds, hs] at hp); (first | simp only [frm, List.foldl, Act.put, List.setIfInBounds_toArray, List.set_cons_succ, List.set_cons_zero, hs, hp, cond_true, cond_false] | simp only [frm, List.foldl, Act.put, List.setIfInBounds_toArray, List.set_cons_succ, List.set_cons_zero, hs, cond_true, cond_false]); have HW := Lib.hid hW; clear hW; go_wp2; refine ⟨g, by (first | simp [frm, Act.put, upd, hs, hp] | simp [frm, Act.put, upd, hs]), HW.out.keep (by decide)⟩
    · intro s g wg hW hall
      have hs := fun i (hi : i < 10) => hall i (by simpa using hi)
      have HG := Lib.hid hW.1
      simp only [frm, List.foldl, Act.put, List.setIfInBounds_toArray, List.set_cons_succ, List.set_cons_zero, hs 0 (by omega), hs 1 (by omega), hs 2 (by omega), hs 3 (by omega), hs 4 (by omega), hs 5 (by omega), hs 6 (by omega), hs 7 (by omega), hs 8 (by omega), hs 9 (by omega), cond_true]
      have A1 := Lib.hid (A0.out.below HG.out A0.out.lt)
      have P1 := Lib.hid (P0.out.below HG.out)
      have HB1 := Lib.hid (HB0.out.trans (HG.out.below.mono HB0.out.size))
      clear hW hs hall A0 P0 HB0 HG
      go_wp2_with fail
      go_at_call 12
      refine (toPool_any o n c x hz _ P1.out).mono ?_
      rintro e w2 ⟨o2, rfl, hp2, hb2⟩
      have P2 := Lib.hid hp2
      have A2 := Lib.hid (A1.out.below hb2 A1.out.lt)
      have R2 := Lib.hid (P1.out.below hb2)
      have HB2 := Lib.hid (HB1.out.trans (hb2.mono HB1.out.size)); clear hb2 hp2
      go_wp2_with (first | (refine wpList_load_blk rfl 29 _ rfl (A2.out) rfl Try.underlying29 sz4 ?_) | fail)
      go_at_call 21
      refine (toA4_any d _).mono ?_
      rintro e w3 ⟨rfl, hb3⟩
      have P3 := Lib.hid (P2.out.below hb3); have R3 := Lib.hid (R2.out.below hb3)
      have HB3 := Lib.hid (HB2.out.trans (hb3.mono HB2.out.size)); clear hb3
      go_wp2_with fail
      go_at_call 22
      refine (iWaysOfPattern_any o2 n n x hz d _ P3.out).mono ?_
      rintro e w4 ⟨rfl, hb4⟩
      have P4 := Lib.hid (P3.out.below hb4); have R4 := Lib.hid (R3.out.below hb4)
      have HB4 := Lib.hid (HB3.out.trans (hb4.mono HB3.out.size)); clear hb4
      go_wp2_with fail
      go_at_call 12
      refine (toPool_any o n c x hz _ R4.out).mono ?_
      rintro e w5 ⟨o5, rfl, hp5, hb5⟩
      have P5 := Lib.hid hp5
      have Q5 := Lib.hid (P4.out.below hb5)
      have HB5 := Lib.hid (HB4.out.trans (hb5.mono HB4.out.size)); clear hb5 hp5
      go_wp2_with fail
      go_at_call 14
      refine (eqPool_any o2 o5 n n n x hz _ Q5.out P5.out).mono ?_
      rintro e w6 ⟨rfl, hb6⟩
      have HB6 := Lib.hid (HB5.out.trans (hb6.mono HB5.out.size)); clear hb6
      go_wp2
      go_ret
      exact ⟨rfl, HB6.out⟩
  · go_enter Try.func5, Try.ntmps5
    go_wp2_with (first | (go_at_call 10; refine (szPool_big o n c hz hn _).mono ?_; rintro e w' ⟨rfl, rfl⟩) | fail)
    go_ret
    exact ⟨rfl, (Below.refl _ _).alloc (Nat.le_refl _) _⟩

set_option maxRecDepth 100000 in
theorem lifted (os : Os) (started : os.Started) (H : Type) (enc : TypeId × Value → H) :
    ReturnsInHanded {} Try.checked os 5 .any (Rows.fnExactWaysOfPatternSpec.pre6 enc Try.prog Try.f5 Rows.fnExactWaysOfPatternRow.domain false) (Rows.fnExactWaysOfPatternSpec.post enc Try.prog Try.f5 false true false false) := by
  refine returnsInHanded_of_change (C := Try.checked) own started (by kernel_rfl) Try.func5
    (ChangeSpec.witness6 (enc := enc) (C := Try.checked) false ⟨#[], #[.slice none 0 0, .agg #[.int .i64 0, .int .i64 0, .int .i64 0, .int .i64 0]], []⟩ 8 (by kernel_rfl) (by kernel_rfl) (by kernel_rfl) (by kernel_rfl)) ?_
  intro W base args ds gs before hval0 hW hcnd _
  have hval : ∀ (j : Nat) t v, Try.f5.params[j]? = some t → args[j]? = some v → Value.okWide Try.prog W .any base t v := hval0
  have hW' := hW
  obtain ⟨p, q, hA0, hV, rfl, hfz, hnd⟩ := hW
  have hA : DataW.TrodAll enc Try.prog W 0 (fun _ => true) true Try.f5.params.toList args.toList ds p := hA0
  rw [Try.params5] at hA hval
  obtain ⟨v0, vs0, d0, ds0, p0, q0, hargs, rfl, rfl, h0, r0⟩ := trodAll_cons hA
  obtain ⟨v1, vs1, d1, ds1, p1, q1, rfl, rfl, rfl, h1, r1⟩ := trodAll_cons r0
  obtain ⟨rfl, rfl, rfl⟩ := trodAll_nil r1
  obtain rfl : args = #[v0, v1] := by cases args; simp_all
  obtain ⟨rfl, rfl⟩ := trodVars_none hV
  obtain ⟨o0, n0, c0, x0, rfl, b0, k0⟩ := open_pool (hval 0 22 v0 rfl rfl) h0
  obtain ⟨x1, rfl, b1⟩ := open_arr Try.underlying29 Try.underlying3 (by kernel_rfl) (by kernel_rfl) (hval 1 29 v1 rfl rfl) h1
  clear hA0 hval0
  refine (walk W o0 n0 c0 x0 b0 k0 x1).mono fun e W' ⟨he, bel⟩ => ?_
  subst he
  exact ⟨_, rfl, law_post laidOut Try.underlying4 rfl (by intro t ht; rw [Try.params5] at ht; revert t; decide +kernel) rfl hW' rfl rfl rfl bel⟩

theorem closed : joinedFacts Try.prog 5 Try.f5 Rows.fnExactWaysOfPatternSpec Rows.fnExactWaysOfPatternRow = true := by
  unfold joinedFacts
  repeat' (with_reducible refine and_mk ?_ ?_)
  all_goals first | (with_reducible exact laidOut) | (with_reducible exact c_maps) | (with_reducible exact c_stops) | (with_reducible exact c_stopKnobs) | (with_reducible exact c_heard) | (with_reducible exact c_enter) | (rw [c_lifts]; rfl) | (rw [c_make]; rfl) | (as_aux_lemma => kernel_rfl)

theorem over : Rows.fnExactWaysOfPatternRow.holds Try.pinned (OpenSpec.ofChange Rows.fnExactWaysOfPatternSpec) :=
  OpenClaim.holds_of_wide 5 Try.f5 rfl rfl rfl rfl rfl rfl rfl ⟨rfl, rfl, rfl, rfl, rfl⟩ rfl rfl rfl rfl rfl (by as_aux_lemma => kernel_rfl) Try.func5 closed
    (of_decide_eq_true (by as_aux_lemma => kernel_rfl)) (by unfold Func.isWrapper; rw [if_neg (of_decide_eq_false (by as_aux_lemma => kernel_rfl))]; exact ⟨rfl, rfl⟩)
    (fun os started H enc _ => lifted os started H enc)

theorem proved : Rows.FnExactWaysOfPatternSaid := over
#print axioms proved
end Go.Proofs.Ytbfhfadfjgfmaaa.lawWaysOfPattern
