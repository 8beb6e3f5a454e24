/- The given statement of FnExactPairOf: for all arguments the program's PairOf returns what the reference's PairOf returns. No condition. -/
import Derived.Test.YtmhlfpcndgoemaaClosed
import Derived.Test.YtmhlfpcndgoemaaInv
import Derived.Test.YtmhlfpcndgoemaaMirror
set_option linter.unusedVariables false
set_option linter.unusedSimpArgs false
set_option linter.unusedSectionVars false
namespace Go.Proofs.Ytmhlfpcndgoemaa.lawPairOf
open Go.ChangeShapes Go.WideShapes Go.ChangeAt Go.RowKit

theorem pairOfV_pair (a b : Nat → Int) : ∃ x y, pairOfV a b = pairF x y := by
  unfold pairOfV
  split
  · exact opairF_pair _ _
  · exact ⟨_, _, pair_zero⟩
theorem eqPairV (f : Nat → Int) (h : ∃ x y, f = pairF x y) (w : World) : Calls Try.prog 74 #[.agg (row 12 (I f)), .agg (row 12 (I f))] w fun e w' => e = .returned (.bool true) ∧ Below w.heap.size w w' := by
  obtain ⟨x, y, rfl⟩ := h
  exact eqPair_any x y w

set_option maxHeartbeats 1000000 in
theorem walk (d e : Nat → Int) (w : World) : Calls Try.prog 16 #[dieV d, dieV e] w fun e w' => e = .returned (.bool true) ∧ Below w.heap.size w w' := by
  go_enter Try.func16, Try.ntmps16
  go_wp2
  generalize hW0 : (w.alloc (.cells (row 6 (I d)) 22)).alloc (.cells (row 6 (I e)) 22) = W0
  have A0 := Lib.hid (show Blk W0 w.heap.size 6 22 (I d) from hW0 ▸ ((Blk.new _ _ _ _).alloc _))
  have B0 := Lib.hid (show Blk W0 (w.heap.size + 1) 6 22 (I e) from hW0 ▸ (Blk.newS (by simp)))
  have HB0 := Lib.hid (show Below w.heap.size w W0 from hW0 ▸ (((Below.refl w.heap.size w).alloc (by omega) _).alloc (by simp) _))
  clear hW0
  refine wp_region_steps (by kernel_rfl) (by kernel_rfl) (fun g : Nat => [(0, 10, dieV d), (1, 11, dieV d), (2, 12, dieV e), (3, 13, dieV e), (4, 14, .tuple #[.agg (row 12 (I (pairOfV d e))), .bool (bothP d e)]), (5, 9, .tuple #[.agg (row 12 (I (pairOfV d e))), .bool (bothP d e)]), (6, 15, .agg (row 12 (I (pairOfV d e)))), (7, 16, .bool (bothP d e)), (8, 5, .pointer (some ⟨g, 0, none⟩)), (10, 6, .bool (bothP d e))]) (WA _ 8 9 12 44 (I (pairOfV d e))) 0 (WA.init (by decide)) ?_ ?_
  · refine (And.intro (fun s g wv hW hs hp => ?_) (And.intro (fun s g wv hW hs hp => ?_) (And.intro (fun s g wv hW hs hp => ?_) (And.intro (fun s g wv hW hs hp => ?_) (And.intro (fun s g wv hW hs hp => ?_) (And.intro (fun s g wv hW hs hp => ?_) (And.intro (fun s g wv hW hs hp => ?_) (And.intro (fun s g wv hW hs hp => ?_) (And.intro (fun s g wv hW hs hp => ?_) (And.intro (fun s g wv hW hs hp => ?_) (And.intro (fun s g wv hW hs hp => ?_) True.intro)))))))))))
    · (try simp [waits, Region.binds, hs] at hp); (first | simp only [frm, List.foldl, Act.put, List.setIfInBounds_toArray, List.set_cons_succ, List.set_cons_zero, hs, hp, cond_true, cond_false] | simp only [frm, List.foldl, Act.put, List.setIfInBounds_toArray, List.set_cons_succ, List.set_cons_zero, hs, cond_true, cond_false]); have HW := Lib.hid hW; clear hW; refine wpList_load_blk rfl 22 _ rfl ((A0.out).below HW.out.1 (A0.out).lt) rfl Try.underlying22 sz6 ?_; go_wp2; refine ⟨g, by (first | simp [frm, Act.put, upd, hs, hp] | simp [frm, Act.put, upd, hs]), HW.out.keep (by decide) (by decide)⟩
    · (try simp [waits, Region.binds, hs] at hp); (first | simp only [frm, List.foldl, Act.put, List.setIfInBounds_toArray, List.set_cons_succ, List.set_cons_zero, hs, hp, cond_true, cond_false] | simp only [frm, List.foldl, Act.put, List.setIfInBounds_toArray, List.set_cons_succ, List.set_cons_zero, hs, cond_true, cond_false]); have HW := Lib.hid hW; clear hW; go_wp2_with fail; go_at_call 39; refine (toA6_any _ _).mono ?_; rintro e' w2 ⟨rfl, hb2⟩; have HB2 := Lib.hid hb2; clear hb2; go_wp2; refine ⟨g, by (first | simp [frm, Act.put, upd, hs, hp] | simp [frm, Act.put, upd, hs]), HW.out.call HB2.out (by decide) (by decide)⟩
    · (try simp [waits, Region.binds, hs] at hp); (first | simp only [frm, List.foldl, Act.put, List.setIfInBounds_toArray, List.set_cons_succ, List.set_cons_zero, hs, hp, cond_true, cond_false] | simp only [frm, List.foldl, Act.put, List.setIfInBounds_toArray, List.set_cons_succ, List.set_cons_zero, hs, cond_true, cond_false]); have HW := Lib.hid hW; clear hW; refine wpList_load_blk rfl 22 _ rfl ((B0.out).below HW.out.1 (B0.out).lt) rfl Try.underlying22 sz6 ?_; go_wp2; refine ⟨g, by (first | simp [frm, Act.put, upd, hs, hp] | simp [frm, Act.put, upd, hs]), HW.out.keep (by decide) (by decide)⟩
    · (try simp [waits, Region.binds, hs] at hp); (first | simp only [frm, List.foldl, Act.put, List.setIfInBounds_toArray, List.set_cons_succ, List.set_cons_zero, hs, hp, cond_true, cond_false] | simp only [frm, List.foldl, Act.put, List.setIfInBounds_toArray, List.set_cons_succ, List.set_cons_zero, hs, cond_true, cond_false]); have HW := Lib.hid hW; clear hW; go_wp2_with fail; go_at_call 39; refine (toA6_any _ _).mono ?_; rintro e' w2 ⟨rfl, hb2⟩; have HB2 := Lib.hid hb2; clear hb2; go_wp2; refine ⟨g, by (first | simp [frm, Act.put, upd, hs, hp] | simp [frm, Act.put, upd, hs]), HW.out.call HB2.out (by decide) (by decide)⟩
    · (try simp [waits, Region.binds, hs] at hp); (first | simp only [frm, List.foldl, Act.put, List.setIfInBounds_toArray, List.set_cons_succ, List.set_cons_zero, hs, hp, cond_true, cond_false] | simp only [frm, List.foldl, Act.put, List.setIfInBounds_toArray, List.set_cons_succ, List.set_cons_zero, hs, cond_true, cond_false]); have HW := Lib.hid hW; clear hW; go_wp2_with fail; go_at_call 72; refine (sPairOf_any _ _ _).mono ?_; rintro e' w2 ⟨rfl, hb2⟩; have HB2 := Lib.hid hb2; clear hb2; go_wp2; refine ⟨g, by (first | simp [frm, Act.put, upd, hs, hp] | simp [frm, Act.put, upd, hs]), HW.out.call HB2.out (by decide) (by decide)⟩
    · (try simp [waits, Region.binds, hs] at hp); (first | simp only [frm, List.foldl, Act.put, List.setIfInBounds_toArray, List.set_cons_succ, List.set_cons_zero, hs, hp, cond_true, cond_false] | simp only [frm, List.foldl, Act.put, List.setIfInBounds_toArray, List.set_cons_succ, List.set_cons_zero, hs, cond_true, cond_false]); have HW := Lib.hid hW; clear hW; go_wp2; refine ⟨g, by (first | simp [frm, Act.put, upd, hs, hp] | simp [frm, Act.put, upd, hs]), HW.out.keep (by decide) (by decide)⟩
    · (try simp [waits, Region.binds, hs] at hp); (first | simp only [frm, List.foldl, Act.put, List.setIfInBounds_toArray, List.set_cons_succ, List.set_cons_zero, hs, hp, cond_true, cond_false] | simp only [frm, List.foldl, Act.put, List.setIfInBounds_toArray, List.set_cons_succ, List.set_cons_zero, hs, cond_true, cond_false]); have HW := Lib.hid hW; clear hW; go_wp2; refine ⟨g, by (first | simp [frm, Act.put, upd, hs, hp] | simp [frm, Act.put, upd, hs]), HW.out.keep (by decide) (by decide)⟩
    · (try simp [waits, Region.binds, hs] at hp); (first | simp only [frm, List.foldl, Act.put, List.setIfInBounds_toArray, List.set_cons_succ, List.set_cons_zero, hs, hp, cond_true, cond_false] | simp only [frm, List.foldl, Act.put, List.setIfInBounds_toArray, List.set_cons_succ, List.set_cons_zero, hs, cond_true, cond_false]); have HW := Lib.hid hW; clear hW; go_wp2; refine ⟨g, by (first | simp [frm, Act.put, upd, hs, hp] | simp [frm, Act.put, upd, hs]), HW.out.keep (by decide) (by decide)⟩
    · (try simp [waits, Region.binds, hs] at hp); (first | simp only [frm, List.foldl, Act.put, List.setIfInBounds_toArray, List.set_cons_succ, List.set_cons_zero, hs, hp, cond_true, cond_false] | simp only [frm, List.foldl, Act.put, List.setIfInBounds_toArray, List.set_cons_succ, List.set_cons_zero, hs, cond_true, cond_false]); have HW := Lib.hid hW; clear hW; refine wpList_alloc_blk rfl 44 rfl zeroP ?_; go_wp2; refine ⟨wv.heap.size, by (first | simp [frm, Act.put, upd, hs, hp] | simp [frm, Act.put, upd, hs]), HW.out.alloc hs (by decide) _⟩
    · (try simp [waits, Region.binds, hs] at hp); (first | simp only [frm, List.foldl, Act.put, List.setIfInBounds_toArray, List.set_cons_succ, List.set_cons_zero, hs, hp, cond_true, cond_false] | simp only [frm, List.foldl, Act.put, List.setIfInBounds_toArray, List.set_cons_succ, List.set_cons_zero, hs, cond_true, cond_false]); have HW := Lib.hid hW; clear hW; obtain ⟨q1, f0, q2⟩ := HW.out.2.1 (by simp [hp]); have Q2 := Lib.hid q2; clear q1 q2; refine wpList_store_blk rfl 44 _ _ rfl Q2.out rfl rfl szP (fun _ _ => rfl) ?_; go_wp2; refine ⟨g, by (first | simp [frm, Act.put, upd, hs, hp] | simp [frm, Act.put, upd, hs]), HW.out.store (by simp [hp]) (by decide)⟩
    · (try simp [waits, Region.binds, hs] at hp); (first | simp only [frm, List.foldl, Act.put, List.setIfInBounds_toArray, List.set_cons_succ, List.set_cons_zero, hs, hp, cond_true, cond_false] | simp only [frm, List.foldl, Act.put, List.setIfInBounds_toArray, List.set_cons_succ, List.set_cons_zero, hs, cond_true, cond_false]); have HW := Lib.hid hW; clear hW; go_wp2; refine ⟨g, by (first | simp [frm, Act.put, upd, hs, hp] | simp [frm, Act.put, upd, hs]), HW.out.keep (by decide) (by decide)⟩
  · intro s g wg hW hall
    have hs := fun i (hi : i < 11) => hall i (by simpa using hi)
    obtain ⟨q0, q1, q2⟩ := hW
    have HG := Lib.hid q0; have HL := Lib.hid (q1 (hs 8 (by omega))).1; have HV := Lib.hid (q2 (hs 9 (by omega))).2
    simp only [frm, List.foldl, Act.put, List.setIfInBounds_toArray, List.set_cons_succ, List.set_cons_zero, hs 0 (by omega), hs 1 (by omega), hs 2 (by omega), hs 3 (by omega), hs 4 (by omega), hs 5 (by omega), hs 6 (by omega), hs 7 (by omega), hs 8 (by omega), hs 10 (by omega), cond_true]
    clear q0 q1 q2 hs hall
    obtain ⟨g1, rfl⟩ : ∃ g1 : Nat, g1 = g := ⟨_, rfl⟩
    obtain ⟨W1, rfl⟩ : ∃ W1 : World, W1 = wg := ⟨_, rfl⟩
    have A1 := Lib.hid (A0.out.below HG.out A0.out.lt)
    have B1 := Lib.hid (B0.out.below HG.out B0.out.lt)
    have V1 := Lib.hid HV.out
    have HB1 := Lib.hid (HB0.out.trans (HG.out.below.mono HB0.out.size))
    clear A0 B0 HB0 HG HL HV s
    go_wp2
    refine wp_region_steps (by kernel_rfl) (by kernel_rfl) (fun g : Nat => [(0, 18, dieV d), (1, 19, dieV d), (2, 20, dieV e), (3, 21, dieV e), (4, 22, .tuple #[.agg (row 12 (I (pairOfV d e))), .bool (bothP d e)]), (5, 17, .tuple #[.agg (row 12 (I (pairOfV d e))), .bool (bothP d e)]), (6, 23, .agg (row 12 (I (pairOfV d e)))), (7, 24, .bool (bothP d e)), (8, 7, .pointer (some ⟨g, 0, none⟩)), (10, 8, .bool (bothP d e))]) (WA _ 8 9 12 44 (I (pairOfV d e))) 0 (WA.init (by decide)) ?_ ?_
    · refine (And.intro (fun s g wv hW hs hp => ?_) (And.intro (fun s g wv hW hs hp => ?_) (And.intro (fun s g wv hW hs hp => ?_) (And.intro (fun s g wv hW hs hp => ?_) (And.intro (fun s g wv hW hs hp => ?_) (And.intro (fun s g wv hW hs hp => ?_) (And.intro (fun s g wv hW hs hp => ?_) (And.intro (fun s g wv hW hs hp => ?_) (And.intro (fun s g wv hW hs hp => ?_) (And.intro (fun s g wv hW hs hp => ?_) (And.intro (fun s g wv hW hs hp => ?_) True.intro)))))))))))
      · (try simp [waits, Region.binds, hs] at hp); (first | simp only [frm, List.foldl, Act.put, List.setIfInBounds_toArray, List.set_cons_succ, List.set_cons_zero, hs, hp, cond_true, cond_false] | simp only [frm, List.foldl, Act.put, List.setIfInBounds_toArray, List.set_cons_succ, List.set_cons_zero, hs, cond_true, cond_false]); have HW := Lib.hid hW; clear hW; refine wpList_load_blk rfl 22 _ rfl ((A1.out).below HW.out.1 (A1.out).lt) rfl Try.underlying22 sz6 ?_; go_wp2; refine ⟨g, by (first | simp [frm, Act.put, upd, hs, hp] | simp [frm, Act.put, upd, hs]), HW.out.keep (by decide) (by decide)⟩
      · (try simp [waits, Region.binds, hs] at hp); (first | simp only [frm, List.foldl, Act.put, List.setIfInBounds_toArray, List.set_cons_succ, List.set_cons_zero, hs, hp, cond_true, cond_false] | simp only [frm, List.foldl, Act.put, List.setIfInBounds_toArray, List.set_cons_succ, List.set_cons_zero, hs, cond_true, cond_false]); have HW := Lib.hid hW; clear hW; go_wp2_with fail; go_at_call 39; refine (toA6_any _ _).mono ?_; rintro e' w2 ⟨rfl, hb2⟩; have HB2 := Lib.hid hb2; clear hb2; go_wp2; refine ⟨g, by (first | simp [frm, Act.put, upd, hs, hp] | simp [frm, Act.put, upd, hs]), HW.out.call HB2.out (by decide) (by decide)⟩
      · (try simp [waits, Region.binds, hs] at hp); (first | simp only [frm, List.foldl, Act.put, List.setIfInBounds_toArray, List.set_cons_succ, List.set_cons_zero, hs, hp, cond_true, cond_false] | simp only [frm, List.foldl, Act.put, List.setIfInBounds_toArray, List.set_cons_succ, List.set_cons_zero, hs, cond_true, cond_false]); have HW := Lib.hid hW; clear hW; refine wpList_load_blk rfl 22 _ rfl ((B1.out).below HW.out.1 (B1.out).lt) rfl Try.underlying22 sz6 ?_; go_wp2; refine ⟨g, by (first | simp [frm, Act.put, upd, hs, hp] | simp [frm, Act.put, upd, hs]), HW.out.keep (by decide) (by decide)⟩
      · (try simp [waits, Region.binds, hs] at hp); (first | simp only [frm, List.foldl, Act.put, List.setIfInBounds_toArray, List.set_cons_succ, List.set_cons_zero, hs, hp, cond_true, cond_false] | simp only [frm, List.foldl, Act.put, List.setIfInBounds_toArray, List.set_cons_succ, List.set_cons_zero, hs, cond_true, cond_false]); have HW := Lib.hid hW; clear hW; go_wp2_with fail; go_at_call 39; refine (toA6_any _ _).mono ?_; rintro e' w2 ⟨rfl, hb2⟩; have HB2 := Lib.hid hb2; clear hb2; go_wp2; refine ⟨g, by (first | simp [frm, Act.put, upd, hs, hp] | simp [frm, Act.put, upd, hs]), HW.out.call HB2.out (by decide) (by decide)⟩
      · (try simp [waits, Region.binds, hs] at hp); (first | simp only [frm, List.foldl, Act.put, List.setIfInBounds_toArray, List.set_cons_succ, List.set_cons_zero, hs, hp, cond_true, cond_false] | simp only [frm, List.foldl, Act.put, List.setIfInBounds_toArray, List.set_cons_succ, List.set_cons_zero, hs, cond_true, cond_false]); have HW := Lib.hid hW; clear hW; go_wp2_with fail; go_at_call 73; refine (iPairOf_any _ _ _).mono ?_; rintro e' w2 ⟨rfl, hb2⟩; have HB2 := Lib.hid hb2; clear hb2; go_wp2; refine ⟨g, by (first | simp [frm, Act.put, upd, hs, hp] | simp [frm, Act.put, upd, hs]), HW.out.call HB2.out (by decide) (by decide)⟩
      · (try simp [waits, Region.binds, hs] at hp); (first | simp only [frm, List.foldl, Act.put, List.setIfInBounds_toArray, List.set_cons_succ, List.set_cons_zero, hs, hp, cond_true, cond_false] | simp only [frm, List.foldl, Act.put, List.setIfInBounds_toArray, List.set_cons_succ, List.set_cons_zero, hs, cond_true, cond_false]); have HW := Lib.hid hW; clear hW; go_wp2; refine ⟨g, by (first | simp [frm, Act.put, upd, hs, hp] | simp [frm, Act.put, upd, hs]), HW.out.keep (by decide) (by decide)⟩
      · (try simp [waits, Region.binds, hs] at hp); (first | simp only [frm, List.foldl, Act.put, List.setIfInBounds_toArray, List.set_cons_succ, List.set_cons_zero, hs, hp, cond_true, cond_false] | simp only [frm, List.foldl, Act.put, List.setIfInBounds_toArray, List.set_cons_succ, List.set_cons_zero, hs, cond_true, cond_false]); have HW := Lib.hid hW; clear hW; go_wp2; refine ⟨g, by (first | simp [frm, Act.put, upd, hs, hp] | simp [frm, Act.put, upd, hs]), HW.out.keep (by decide) (by decide)⟩
      · (try simp [waits, Region.binds, hs] at hp); (first | simp only [frm, List.foldl, Act.put, List.setIfInBounds_toArray, List.set_cons_succ, List.set_cons_zero, hs, hp, cond_true, cond_false] | simp only [frm, List.foldl, Act.put, List.setIfInBounds_toArray, List.set_cons_succ, List.set_cons_zero, hs, cond_true, cond_false]); have HW := Lib.hid hW; clear hW; go_wp2; refine ⟨g, by (first | simp [frm, Act.put, upd, hs, hp] | simp [frm, Act.put, upd, hs]), HW.out.keep (by decide) (by decide)⟩
      · (try simp [waits, Region.binds, hs] at hp); (first | simp only [frm, List.foldl, Act.put, List.setIfInBounds_toArray, List.set_cons_succ, List.set_cons_zero, hs, hp, cond_true, cond_false] | simp only [frm, List.foldl, Act.put, List.setIfInBounds_toArray, List.set_cons_succ, List.set_cons_zero, hs, cond_true, cond_false]); have HW := Lib.hid hW; clear hW; refine wpList_alloc_blk rfl 44 rfl zeroP ?_; go_wp2; refine ⟨wv.heap.size, by (first | simp [frm, Act.put, upd, hs, hp] | simp [frm, Act.put, upd, hs]), HW.out.alloc hs (by decide) _⟩
      · (try simp [waits, Region.binds, hs] at hp); (first | simp only [frm, List.foldl, Act.put, List.setIfInBounds_toArray, List.set_cons_succ, List.set_cons_zero, hs, hp, cond_true, cond_false] | simp only [frm, List.foldl, Act.put, List.setIfInBounds_toArray, List.set_cons_succ, List.set_cons_zero, hs, cond_true, cond_false]); have HW := Lib.hid hW; clear hW; obtain ⟨q1, f0, q2⟩ := HW.out.2.1 (by simp [hp]); have Q2 := Lib.hid q2; clear q1 q2; refine wpList_store_blk rfl 44 _ _ rfl Q2.out rfl rfl szP (fun _ _ => rfl) ?_; go_wp2; refine ⟨g, by (first | simp [frm, Act.put, upd, hs, hp] | simp [frm, Act.put, upd, hs]), HW.out.store (by simp [hp]) (by decide)⟩
      · (try simp [waits, Region.binds, hs] at hp); (first | simp only [frm, List.foldl, Act.put, List.setIfInBounds_toArray, List.set_cons_succ, List.set_cons_zero, hs, hp, cond_true, cond_false] | simp only [frm, List.foldl, Act.put, List.setIfInBounds_toArray, List.set_cons_succ, List.set_cons_zero, hs, cond_true, cond_false]); have HW := Lib.hid hW; clear hW; go_wp2; refine ⟨g, by (first | simp [frm, Act.put, upd, hs, hp] | simp [frm, Act.put, upd, hs]), HW.out.keep (by decide) (by decide)⟩
    · intro s g wg hW hall
      have hs := fun i (hi : i < 11) => hall i (by simpa using hi)
      obtain ⟨q0, q1, q2⟩ := hW
      have HG := Lib.hid q0; have HL := Lib.hid (q1 (hs 8 (by omega))).1; have HV := Lib.hid (q2 (hs 9 (by omega))).2
      simp only [frm, List.foldl, Act.put, List.setIfInBounds_toArray, List.set_cons_succ, List.set_cons_zero, hs 0 (by omega), hs 1 (by omega), hs 2 (by omega), hs 3 (by omega), hs 4 (by omega), hs 5 (by omega), hs 6 (by omega), hs 7 (by omega), hs 8 (by omega), hs 10 (by omega), cond_true]
      clear q0 q1 q2 hs hall
      have V2 := Lib.hid (V1.out.below HG.out V1.out.lt)
      have HB2 := Lib.hid (HB1.out.trans (HG.out.below.mono HB1.out.size))
      clear HG HL
      go_wp2_with (first | (refine wpList_load_part rfl 44 _ rfl (HV.out) rfl (Nat.le_of_ble_eq_true rfl) Try.isAgg44 szP (fun i _ => congrArg _ (Nat.zero_add i)) ?_) | (refine wpList_load_part rfl 44 _ rfl (V2.out) rfl (Nat.le_of_ble_eq_true rfl) Try.isAgg44 szP (fun i _ => congrArg _ (Nat.zero_add i)) ?_) | fail)
      go_at_call 74
      refine (eqPairV _ (pairOfV_pair d e) _).mono ?_
      rintro e w3 ⟨rfl, hb3⟩
      have HB3 := Lib.hid (HB2.out.trans (hb3.mono HB2.out.size)); clear hb3
      go_wp2
      go_ret
      exact ⟨rfl, HB3.out⟩

set_option maxRecDepth 100000 in
theorem lifted (os : Os) (started : os.Started) (H : Type) (enc : TypeId × Value → H) :
    ReturnsInHanded {} Try.checked os 16 .any (Rows.fnExactPairOfSpec.pre6 enc Try.prog Try.f16 Rows.fnExactPairOfRow.domain false) (Rows.fnExactPairOfSpec.post enc Try.prog Try.f16 false true false false) := by
  refine returnsInHanded_of_change (C := Try.checked) own started (by kernel_rfl) Try.func16
    (ChangeSpec.witness6 (enc := enc) (C := Try.checked) false ⟨#[], #[.agg #[.int .i64 0, .int .i64 0, .int .i64 0, .int .i64 0, .int .i64 0, .int .i64 0], .agg #[.int .i64 0, .int .i64 0, .int .i64 0, .int .i64 0, .int .i64 0, .int .i64 0]], []⟩ 8 (by kernel_rfl) (by kernel_rfl) (by kernel_rfl) (by kernel_rfl)) ?_
  intro W base args ds gs before hval0 hW hcnd _
  have hval : ∀ (j : Nat) t v, Try.f16.params[j]? = some t → args[j]? = some v → Value.okWide Try.prog W .any base t v := hval0
  have hW' := hW
  obtain ⟨p, q, hA0, hV, rfl, hfz, hnd⟩ := hW
  have hA : DataW.TrodAll enc Try.prog W 0 (fun _ => true) true Try.f16.params.toList args.toList ds p := hA0
  rw [Try.params16] at hA hval
  obtain ⟨v0, vs0, d0, ds0, p0, q0, hargs, rfl, rfl, h0, r0⟩ := trodAll_cons hA
  obtain ⟨v1, vs1, d1, ds1, p1, q1, rfl, rfl, rfl, h1, r1⟩ := trodAll_cons r0
  obtain ⟨rfl, rfl, rfl⟩ := trodAll_nil r1
  obtain rfl : args = #[v0, v1] := by cases args; simp_all
  obtain ⟨rfl, rfl⟩ := trodVars_none hV
  obtain ⟨x0, rfl, b0⟩ := open_arr Try.underlying22 Try.underlying3 (by kernel_rfl) (by kernel_rfl) (hval 0 22 v0 rfl rfl) h0
  obtain ⟨x1, rfl, b1⟩ := open_arr Try.underlying22 Try.underlying3 (by kernel_rfl) (by kernel_rfl) (hval 1 22 v1 rfl rfl) h1
  clear hA0 hval0
  refine (walk x0 x1 W).mono fun e W' ⟨he, bel⟩ => ?_
  subst he
  exact ⟨_, rfl, law_post laidOut Try.underlying4 rfl (by intro t ht; rw [Try.params16] at ht; revert t; decide +kernel) rfl hW' rfl rfl rfl bel⟩

theorem closed : joinedFacts Try.prog 16 Try.f16 Rows.fnExactPairOfSpec Rows.fnExactPairOfRow = true := by
  unfold joinedFacts
  repeat' (with_reducible refine and_mk ?_ ?_)
  all_goals first | (with_reducible exact laidOut) | (with_reducible exact c_maps) | (with_reducible exact c_stops) | (with_reducible exact c_stopKnobs) | (with_reducible exact c_heard) | (with_reducible exact c_enter) | (rw [c_lifts]; rfl) | (rw [c_make]; rfl) | (as_aux_lemma => kernel_rfl)

theorem over : Rows.fnExactPairOfRow.holds Try.pinned (OpenSpec.ofChange Rows.fnExactPairOfSpec) :=
  OpenClaim.holds_of_wide 16 Try.f16 rfl rfl rfl rfl rfl rfl rfl ⟨rfl, rfl, rfl, rfl, rfl⟩ rfl rfl rfl rfl rfl (by as_aux_lemma => kernel_rfl) Try.func16 closed
    (of_decide_eq_true (by as_aux_lemma => kernel_rfl)) (by unfold Func.isWrapper; rw [if_neg (of_decide_eq_false (by as_aux_lemma => kernel_rfl))]; exact ⟨rfl, rfl⟩)
    (fun os started H enc _ => lifted os started H enc)

theorem proved : Rows.FnExactPairOfSaid := over
#print axioms proved
end Go.Proofs.Ytmhlfpcndgoemaa.lawPairOf
