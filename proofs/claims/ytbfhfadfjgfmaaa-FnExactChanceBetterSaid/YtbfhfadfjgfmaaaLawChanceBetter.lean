/- The given statement of FnExactChanceBetter: for all arguments the program's ChanceBetter returns what the reference's ChanceBetter returns. No condition. -/
import Derived.Test.YtbfhfadfjgfmaaaClosed
import Derived.Test.YtbfhfadfjgfmaaaFramePool
import Derived.Test.YtbfhfadfjgfmaaaPools
import Derived.Test.YtbfhfadfjgfmaaaInvs
import Derived.Test.YtbfhfadfjgfmaaaLate
set_option linter.unusedVariables false
set_option linter.unusedSimpArgs false
set_option linter.unusedSectionVars false
namespace Go.Proofs.Ytbfhfadfjgfmaaa.lawChanceBetter
open Go.ChangeShapes Go.WideShapes Go.ChangeAt Go.RowKit

set_option maxHeartbeats 2000000 in
theorem walk (w : World) (o : Option Addr) (n c : Nat) (x : Nat → Nat → Int) (hn : n ≤ maxLen) (h : PoolAt w o n x) (d : Nat → Int) : Calls Try.prog 7 #[poolV o n c, .agg (row 4 (I d))] w fun e w' => e = .returned (.bool true) ∧ Below w.heap.size w w' := by
  have H := Lib.hid h; clear h
  by_cases hz : n ≤ 1048576
  · have d1 : decide ((1048576 : Int) - (n : Int) < 0) = false := by simp; omega
    go_enter Try.func7, Try.ntmps7
    go_wp2_with (first | (go_at_call 10; refine (szPool_ok o n c hz _).mono ?_; rintro e w' ⟨rfl, rfl⟩) | fail)
    generalize hW0 : w.alloc (.cells (row 4 (I d)) 29) = W0
    have A0 := Lib.hid (show Blk W0 w.heap.size 4 29 (I d) from hW0 ▸ (Blk.new _ _ _ _))
    have P0 := Lib.hid (show PoolAt W0 o n x from hW0 ▸ (H.out.alloc _))
    have HB0 := Lib.hid (show Below w.heap.size w W0 from hW0 ▸ ((Below.refl w.heap.size w).alloc (by omega) _))
    clear hW0
    refine wp_region_steps (by kernel_rfl) (by kernel_rfl) (fun g : Option Addr × Nat => [(0, 17, poolV o n c), (1, 18, poolV g.1 n n), (2, 19, .agg (row 4 (I d))), (3, 20, .agg (row 4 (I d))), (4, 21, .tuple #[.agg (row 2 (I (betV n x d))), .bool (waysB n x d)]), (5, 16, .tuple #[.agg (row 2 (I (betV n x d))), .bool (waysB n x d)]), (6, 22, .agg (row 2 (I (betV n x d)))), (7, 23, .bool (waysB n x d)), (8, 6, .pointer (some ⟨g.2, 0, none⟩)), (10, 7, .bool (waysB n x d))]) (WPA _ n x 2 43 (I (betV n x d))) (none, 0) WPA.init ?_ ?_
    · refine (And.intro (fun s g wv hW hs hp => ?_) (And.intro (fun s g wv hW hs hp => ?_) (And.intro (fun s g wv hW hs hp => ?_) (And.intro (fun s g wv hW hs hp => ?_) (And.intro (fun s g wv hW hs hp => ?_) (And.intro (fun s g wv hW hs hp => ?_) (And.intro (fun s g wv hW hs hp => ?_) (And.intro (fun s g wv hW hs hp => ?_) (And.intro (fun s g wv hW hs hp => ?_) (And.intro (fun s g wv hW hs hp => ?_) (And.intro (fun s g wv hW hs hp => ?_) True.intro)))))))))))
      · (try simp [waits, Region.binds, hs] at hp); (first | simp only [frm, List.foldl, Act.put, List.setIfInBounds_toArray, List.set_cons_succ, List.set_cons_zero, hs, hp, cond_true, cond_false] | simp only [frm, List.foldl, Act.put, List.setIfInBounds_toArray, List.set_cons_succ, List.set_cons_zero, hs, cond_true, cond_false]); have HW := Lib.hid hW; clear hW; go_wp2; refine ⟨g, by (first | simp [frm, Act.put, upd, hs, hp] | simp [frm, Act.put, upd, hs]), HW.out.keep (by decide) (by decide) (by decide)⟩
      · (try simp [waits, Region.binds, hs] at hp); (first | simp only [frm, List.foldl, Act.put, List.setIfInBounds_toArray, List.set_cons_succ, List.set_cons_zero, hs, hp, cond_true, cond_false] | simp only [frm, List.foldl, Act.put, List.setIfInBounds_toArray, List.set_cons_succ, List.set_cons_zero, hs, cond_true, cond_false]); have HW := Lib.hid hW; clear hW; go_wp2_with fail; go_at_call 12; refine (toPool_any o n c x hz _ (P0.out.below HW.out.1)).mono ?_; rintro e' w2 ⟨o2, rfl, hp2, hb2⟩; have HP2 := Lib.hid hp2; have HB2 := Lib.hid hb2; clear hp2 hb2; go_wp2; refine ⟨(o2, g.2), by (first | simp [frm, Act.put, upd, hs, hp] | simp [frm, Act.put, upd, hs]), HW.out.made HB2.out HP2.out⟩
      · (try simp [waits, Region.binds, hs] at hp); (first | simp only [frm, List.foldl, Act.put, List.setIfInBounds_toArray, List.set_cons_succ, List.set_cons_zero, hs, hp, cond_true, cond_false] | simp only [frm, List.foldl, Act.put, List.setIfInBounds_toArray, List.set_cons_succ, List.set_cons_zero, hs, cond_true, cond_false]); have HW := Lib.hid hW; clear hW; refine wpList_load_blk rfl 29 _ rfl (A0.out.below HW.out.1 A0.out.lt) rfl Try.underlying29 sz4 ?_; go_wp2; refine ⟨g, by (first | simp [frm, Act.put, upd, hs, hp] | simp [frm, Act.put, upd, hs]), HW.out.keep (by decide) (by decide) (by decide)⟩
      · (try simp [waits, Region.binds, hs] at hp); (first | simp only [frm, List.foldl, Act.put, List.setIfInBounds_toArray, List.set_cons_succ, List.set_cons_zero, hs, hp, cond_true, cond_false] | simp only [frm, List.foldl, Act.put, List.setIfInBounds_toArray, List.set_cons_succ, List.set_cons_zero, hs, cond_true, cond_false]); have HW := Lib.hid hW; clear hW; go_wp2_with fail; go_at_call 21; refine (toA4_any d _).mono ?_; rintro e' w2 ⟨rfl, hb2⟩; have HB2 := Lib.hid hb2; clear hb2; go_wp2; refine ⟨g, by (first | simp [frm, Act.put, upd, hs, hp] | simp [frm, Act.put, upd, hs]), HW.out.call HB2.out (by decide) (by decide) (by decide)⟩
      · (try simp [waits, Region.binds, hs] at hp); (first | simp only [frm, List.foldl, Act.put, List.setIfInBounds_toArray, List.set_cons_succ, List.set_cons_zero, hs, hp, cond_true, cond_false] | simp only [frm, List.foldl, Act.put, List.setIfInBounds_toArray, List.set_cons_succ, List.set_cons_zero, hs, cond_true, cond_false]); have HW := Lib.hid hW; clear hW; go_wp2_with fail; go_at_call 28; refine (sChanceBetter_any g.1 n n x hz d _ (HW.out.pool (by simp [hp]) hs)).mono ?_; rintro e' w2 ⟨rfl, hb2⟩; have HB2 := Lib.hid hb2; clear hb2; go_wp2; refine ⟨g, by (first | simp [frm, Act.put, upd, hs, hp] | simp [frm, Act.put, upd, hs]), HW.out.call HB2.out (by decide) (by decide) (by decide)⟩
      · (try simp [waits, Region.binds, hs] at hp); (first | simp only [frm, List.foldl, Act.put, List.setIfInBounds_toArray, List.set_cons_succ, List.set_cons_zero, hs, hp, cond_true, cond_false] | simp only [frm, List.foldl, Act.put, List.setIfInBounds_toArray, List.set_cons_succ, List.set_cons_zero, hs, cond_true, cond_false]); have HW := Lib.hid hW; clear hW; go_wp2; refine ⟨g, by (first | simp [frm, Act.put, upd, hs, hp] | simp [frm, Act.put, upd, hs]), HW.out.keep (by decide) (by decide) (by decide)⟩
      · (try simp [waits, Region.binds, hs] at hp); (first | simp only [frm, List.foldl, Act.put, List.setIfInBounds_toArray, List.set_cons_succ, List.set_cons_zero, hs, hp, cond_true, cond_false] | simp only [frm, List.foldl, Act.put, List.setIfInBounds_toArray, List.set_cons_succ, List.set_cons_zero, hs, cond_true, cond_false]); have HW := Lib.hid hW; clear hW; go_wp2; refine ⟨g, by (first | simp [frm, Act.put, upd, hs, hp] | simp [frm, Act.put, upd, hs]), HW.out.keep (by decide) (by decide) (by decide)⟩
      · (try simp [waits, Region.binds, hs] at hp); (first | simp only [frm, List.foldl, Act.put, List.setIfInBounds_toArray, List.set_cons_succ, List.set_cons_zero, hs, hp, cond_true, cond_false] | simp only [frm, List.foldl, Act.put, List.setIfInBounds_toArray, List.set_cons_succ, List.set_cons_zero, hs, cond_true, cond_false]); have HW := Lib.hid hW; clear hW; go_wp2; refine ⟨g, by (first | simp [frm, Act.put, upd, hs, hp] | simp [frm, Act.put, upd, hs]), HW.out.keep (by decide) (by decide) (by decide)⟩
      · (try simp [waits, Region.binds, hs] at hp); (first | simp only [frm, List.foldl, Act.put, List.setIfInBounds_toArray, List.set_cons_succ, List.set_cons_zero, hs, hp, cond_true, cond_false] | simp only [frm, List.foldl, Act.put, List.setIfInBounds_toArray, List.set_cons_succ, List.set_cons_zero, hs, cond_true, cond_false]); have HW := Lib.hid hW; clear hW; refine wpList_alloc_blk rfl 43 rfl zero2 ?_; go_wp2; refine ⟨(g.1, wv.heap.size), by (first | simp [frm, Act.put, upd, hs, hp] | simp [frm, Act.put, upd, hs]), HW.out.laid hs _⟩
      · (try simp [waits, Region.binds, hs] at hp); (first | simp only [frm, List.foldl, Act.put, List.setIfInBounds_toArray, List.set_cons_succ, List.set_cons_zero, hs, hp, cond_true, cond_false] | simp only [frm, List.foldl, Act.put, List.setIfInBounds_toArray, List.set_cons_succ, List.set_cons_zero, hs, cond_true, cond_false]); have HW := Lib.hid hW; clear hW; obtain ⟨f0, q2⟩ := (HW.out.2.2.2.1 (by simp [hp])).2; have Q2 := Lib.hid q2; clear q2; refine wpList_store_blk rfl 43 _ _ rfl Q2.out rfl rfl sz2 (fun _ _ => rfl) ?_; go_wp2; refine ⟨g, by (first | simp [frm, Act.put, upd, hs, hp] | simp [frm, Act.put, upd, hs]), HW.out.wrote (by simp [hp]) (by simp [hp])⟩
      · (try simp [waits, Region.binds, hs] at hp); (first | simp only [frm, List.foldl, Act.put, List.setIfInBounds_toArray, List.set_cons_succ, List.set_cons_zero, hs, hp, cond_true, cond_false] | simp only [frm, List.foldl, Act.put, List.setIfInBounds_toArray, List.set_cons_succ, List.set_cons_zero, hs, cond_true, cond_false]); have HW := Lib.hid hW; clear hW; go_wp2; refine ⟨g, by (first | simp [frm, Act.put, upd, hs, hp] | simp [frm, Act.put, upd, hs]), HW.out.keep (by decide) (by decide) (by decide)⟩
    · intro s g wg hW hall
      have hs := fun i (hi : i < 11) => hall i (by simpa using hi)
      have HG := Lib.hid hW.1
      have V0 := Lib.hid (hW.2.2.2.2 (hs 9 (by omega)))
      simp only [frm, List.foldl, Act.put, List.setIfInBounds_toArray, List.set_cons_succ, List.set_cons_zero, hs 0 (by omega), hs 1 (by omega), hs 2 (by omega), hs 3 (by omega), hs 4 (by omega), hs 5 (by omega), hs 6 (by omega), hs 7 (by omega), hs 8 (by omega), hs 10 (by omega), cond_true]
      have A1 := Lib.hid (A0.out.below HG.out A0.out.lt)
      have P1 := Lib.hid (P0.out.below HG.out)
      have HB1 := Lib.hid (HB0.out.trans (HG.out.below.mono HB0.out.size))
      obtain ⟨v, hv⟩ : ∃ v, v = g.2 := ⟨_, rfl⟩
      rw [← hv] at V0 ⊢
      clear hv hW hs hall A0 P0 HB0 HG
      go_wp2_with fail
      go_at_call 12
      refine (toPool_any o n c x hz _ P1.out).mono ?_
      rintro e w2 ⟨o2, rfl, hp2, hb2⟩
      have P2 := Lib.hid hp2
      have A2 := Lib.hid (A1.out.below hb2 A1.out.lt)
      have V2 := Lib.hid (V0.out.below hb2 V0.out.lt)
      have R2 := Lib.hid (P1.out.below hb2)
      have HB2 := Lib.hid (HB1.out.trans (hb2.mono HB1.out.size)); clear hb2 hp2
      go_wp2_with (first | (refine wpList_load_blk rfl 29 _ rfl (A2.out) rfl Try.underlying29 sz4 ?_) | fail)
      go_at_call 21
      refine (toA4_any d _).mono ?_
      rintro e w3 ⟨rfl, hb3⟩
      have P3 := Lib.hid (P2.out.below hb3); have R3 := Lib.hid (R2.out.below hb3); have V3 := Lib.hid (V2.out.below hb3 V2.out.lt)
      have HB3 := Lib.hid (HB2.out.trans (hb3.mono HB2.out.size)); clear hb3
      go_wp2_with fail
      go_at_call 29
      refine (iChanceBetter_any o2 n n x hz d _ P3.out).mono ?_
      rintro e w4 ⟨rfl, hb4⟩
      have P4 := Lib.hid (P3.out.below hb4); have R4 := Lib.hid (R3.out.below hb4); have V4 := Lib.hid (V3.out.below hb4 V3.out.lt)
      have HB4 := Lib.hid (HB3.out.trans (hb4.mono HB3.out.size)); clear hb4
      go_wp2_with (first | (refine wpList_alloc_blk rfl 43 rfl zero2 ?_) | (refine wpList_store_new rfl 43 _ _ rfl rfl rfl (by first | rfl | (simp; done)) sz2 (fun _ _ => rfl) ?_) | (refine wpList_load_blk rfl 43 _ rfl (Blk.new _ _ _ _) rfl Try.underlying43 sz2 ?_) | (refine wpList_load_blk rfl 43 _ rfl ((V4.out.alloc _)) rfl Try.underlying43 sz2 ?_) | fail)
      go_at_call 30
      refine (eqA2_any _ _).mono ?_
      rintro e w5 ⟨rfl, hb5⟩
      have P5 := Lib.hid ((P4.out.alloc _).below hb5); have R5 := Lib.hid ((R4.out.alloc _).below hb5)
      have HB5 := Lib.hid (Below.trans (HB4.out.alloc (by have := HB4.out.size; omega) _) (hb5.mono (by have := HB4.out.size; simp; omega))); clear hb5
      go_wp2_with fail
      go_at_call 12
      refine (toPool_any o n c x hz _ R5.out).mono ?_
      rintro e w6 ⟨o6, rfl, hp6, hb6⟩
      have P6 := Lib.hid hp6
      have Q6 := Lib.hid (P5.out.below hb6)
      have HB6 := Lib.hid (HB5.out.trans (hb6.mono HB5.out.size)); clear hb6 hp6
      go_wp2_with fail
      go_at_call 14
      refine (eqPool_any o2 o6 n n n x hz _ Q6.out P6.out).mono ?_
      rintro e w7 ⟨rfl, hb7⟩
      have HB7 := Lib.hid (HB6.out.trans (hb7.mono HB6.out.size)); clear hb7
      go_wp2
      go_ret
      exact ⟨rfl, HB7.out⟩
  · go_enter Try.func7, Try.ntmps7
    go_wp2_with (first | (go_at_call 10; refine (szPool_big o n c hz hn _).mono ?_; rintro e w' ⟨rfl, rfl⟩) | fail)
    go_ret
    exact ⟨rfl, (Below.refl _ _).alloc (Nat.le_refl _) _⟩

set_option maxRecDepth 100000 in
theorem lifted (os : Os) (started : os.Started) (H : Type) (enc : TypeId × Value → H) :
    ReturnsInHanded {} Try.checked os 7 .any (Rows.fnExactChanceBetterSpec.pre6 enc Try.prog Try.f7 Rows.fnExactChanceBetterRow.domain false) (Rows.fnExactChanceBetterSpec.post enc Try.prog Try.f7 false true false false) := by
  refine returnsInHanded_of_change (C := Try.checked) own started (by kernel_rfl) Try.func7
    (ChangeSpec.witness6 (enc := enc) (C := Try.checked) false ⟨#[], #[.slice none 0 0, .agg #[.int .i64 0, .int .i64 0, .int .i64 0, .int .i64 0]], []⟩ 8 (by kernel_rfl) (by kernel_rfl) (by kernel_rfl) (by kernel_rfl)) ?_
  intro W base args ds gs before hval0 hW hcnd _
  have hval : ∀ (j : Nat) t v, Try.f7.params[j]? = some t → args[j]? = some v → Value.okWide Try.prog W .any base t v := hval0
  have hW' := hW
  obtain ⟨p, q, hA0, hV, rfl, hfz, hnd⟩ := hW
  have hA : DataW.TrodAll enc Try.prog W 0 (fun _ => true) true Try.f7.params.toList args.toList ds p := hA0
  rw [Try.params7] at hA hval
  obtain ⟨v0, vs0, d0, ds0, p0, q0, hargs, rfl, rfl, h0, r0⟩ := trodAll_cons hA
  obtain ⟨v1, vs1, d1, ds1, p1, q1, rfl, rfl, rfl, h1, r1⟩ := trodAll_cons r0
  obtain ⟨rfl, rfl, rfl⟩ := trodAll_nil r1
  obtain rfl : args = #[v0, v1] := by cases args; simp_all
  obtain ⟨rfl, rfl⟩ := trodVars_none hV
  obtain ⟨o0, n0, c0, x0, rfl, b0, k0⟩ := open_pool (hval 0 22 v0 rfl rfl) h0
  obtain ⟨x1, rfl, b1⟩ := open_arr Try.underlying29 Try.underlying3 (by kernel_rfl) (by kernel_rfl) (hval 1 29 v1 rfl rfl) h1
  clear hA0 hval0
  refine (walk W o0 n0 c0 x0 b0 k0 x1).mono fun e W' ⟨he, bel⟩ => ?_
  subst he
  exact ⟨_, rfl, law_post laidOut Try.underlying4 rfl (by intro t ht; rw [Try.params7] at ht; revert t; decide +kernel) rfl hW' rfl rfl rfl bel⟩

theorem closed : joinedFacts Try.prog 7 Try.f7 Rows.fnExactChanceBetterSpec Rows.fnExactChanceBetterRow = true := by
  unfold joinedFacts
  repeat' (with_reducible refine and_mk ?_ ?_)
  all_goals first | (with_reducible exact laidOut) | (with_reducible exact c_maps) | (with_reducible exact c_stops) | (with_reducible exact c_stopKnobs) | (with_reducible exact c_heard) | (with_reducible exact c_enter) | (rw [c_lifts]; rfl) | (rw [c_make]; rfl) | (as_aux_lemma => kernel_rfl)

theorem over : Rows.fnExactChanceBetterRow.holds Try.pinned (OpenSpec.ofChange Rows.fnExactChanceBetterSpec) :=
  OpenClaim.holds_of_wide 7 Try.f7 rfl rfl rfl rfl rfl rfl rfl ⟨rfl, rfl, rfl, rfl, rfl⟩ rfl rfl rfl rfl rfl (by as_aux_lemma => kernel_rfl) Try.func7 closed
    (of_decide_eq_true (by as_aux_lemma => kernel_rfl)) (by unfold Func.isWrapper; rw [if_neg (of_decide_eq_false (by as_aux_lemma => kernel_rfl))]; exact ⟨rfl, rfl⟩)
    (fun os started H enc _ => lifted os started H enc)

theorem proved : Rows.FnExactChanceBetterSaid := over
#print axioms proved
end Go.Proofs.Ytbfhfadfjgfmaaa.lawChanceBetter
