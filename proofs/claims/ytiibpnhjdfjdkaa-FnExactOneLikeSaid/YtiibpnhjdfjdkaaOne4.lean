/- OneLike, the reference's side. -/
import Derived.Test.YtiibpnhjdfjdkaaOne3
import Derived.Test.YtiibpnhjdfjdkaaGrow
import Derived.Test.YtiibpnhjdfjdkaaArrs
import Derived.Test.YtiibpnhjdfjdkaaTail
import Derived.Test.YtiibpnhjdfjdkaaFrac
set_option linter.unusedVariables false
set_option linter.unusedSimpArgs false
set_option linter.unusedSectionVars false
namespace Go.Proofs.Ytiibpnhjdfjdkaa
open Go.RowKit
def f6 (a b c d e f : Int) : Nat → Int := fun i => if i = 0 then a else if i = 1 then b else if i = 2 then c else if i = 3 then d else if i = 4 then e else f
theorem made6 (a b c d e f : Int) : Try.prog.built 22 [(0, .int .i64 a), (1, .int .i64 b), (2, .int .i64 c), (3, .int .i64 d), (4, .int .i64 e), (5, .int .i64 f)] = some (row 6 (I (f6 a b c d e f))) := by kernel_rfl
theorem grown_build6 {oo : Oper} {ac : Act} {w0 : World} {K : Act → Prop} (x0 x1 x2 x3 x4 x5 : Operand) (ho : oo.op = .build 22 #[(0, x0), (1, x1), (2, x2), (3, x3), (4, x4), (5, x5)]) {a b c d e f : Int} (h0 : ac.eval x0 = .int .i64 a) (h1 : ac.eval x1 = .int .i64 b) (h2 : ac.eval x2 = .int .i64 c) (h3 : ac.eval x3 = .int .i64 d) (h4 : ac.eval x4 = .int .i64 e) (h5 : ac.eval x5 = .int .i64 f)
    (hk : K (ac.put oo.dst (.agg (row 6 (I (f6 a b c d e f)))))) : oo.quiet Try.prog ac (Grew w0) K :=
  quiet_build #[(0, x0), (1, x1), (2, x2), (3, x3), (4, x4), (5, x5)] ho (by simpa [h0, h1, h2, h3, h4, h5] using made6 a b c d e f) hk
theorem f6_row (F : Nat → Int) : row 6 (I (f6 (F 0) (F 1) (F 2) (F 3) (F 4) (F 5))) = row 6 (I F) := row_ext (fun i hi => by
  have : i = 0 ∨ i = 1 ∨ i = 2 ∨ i = 3 ∨ i = 4 ∨ i = 5 := by omega
  rcases this with rfl | rfl | rfl | rfl | rfl | rfl <;> rfl)
set_option maxHeartbeats 1000000 in
theorem l5Array_any (A : Option Addr) (c B : Nat) (F : Nat → Int) (w : World) (h : Ints w B A 6 c F) : Calls Try.prog 81 #[.slice A 6 c] w fun e w' => e = .returned (.agg (row 6 (I F))) ∧ Below w.heap.size w w' := by
  obtain ⟨g, rfl, _, _, _⟩ := h.cell (k := 0) (by omega)
  have HB1 := Lib.hid (show Below w.heap.size w (w.alloc (.cells (row 6 (I fun _ => 0)) 22)) from (Below.refl _ _).alloc (Nat.le_refl _) _)
  have cel : ∀ k, k < 6 → (w.alloc (.cells (row 6 (I fun _ => 0)) 22)).cell? ⟨g, k, none⟩ = some (.int .i64 (F k)) := fun k hk => by
    obtain ⟨g2, e0, _, _, c1⟩ := (h.below HB1.out).cell hk
    obtain rfl : g = g2 := by injection e0 with e0; injection e0
    exact c1
  have C0 := Lib.hid (cel 0 (by omega)); have C1 := Lib.hid (cel 1 (by omega)); have C2 := Lib.hid (cel 2 (by omega)); have C3 := Lib.hid (cel 3 (by omega)); have C4 := Lib.hid (cel 4 (by omega)); have C5 := Lib.hid (cel 5 (by omega))
  clear cel h
  have HF := Lib.hid (f6_row F)
  go_enter Try.func81, Try.ntmps81
  go_wp2_with (first | (refine wpList_alloc_blk rfl 22 rfl zero6 ?_) | fail)
  have R1 := Lib.hid (show Blk (w.alloc (.cells (row 6 (I fun _ => 0)) 22)) w.heap.size 6 22 (I fun _ => 0) from Blk.new _ _ _ _)
  simp only [Act.put, List.setIfInBounds_toArray, List.set_cons_succ, List.set_cons_zero]
  refine wp_region_grown_tail 19 (by kernel_rfl) (by kernel_rfl) ?_
  simp only [List.take_succ_cons, List.take_zero, List.drop_succ_cons, List.drop_zero]
  repeat (first | go_big_quiet_skip | (go_big_quiet_want; (first | (refine grown_build6 _ _ _ _ _ _ rfl rfl rfl rfl rfl rfl rfl ?_; simp only [Act.put, List.setIfInBounds_toArray, List.set_cons_succ, List.set_cons_zero]; go_big_quiet_on) | (refine grown_load_int 3 _ rfl rfl (C0.out) Try.isAgg3 ?_; simp only [Act.put, List.setIfInBounds_toArray, List.set_cons_succ, List.set_cons_zero]; go_big_quiet_on) | (refine grown_load_int 3 _ rfl rfl (C1.out) Try.isAgg3 ?_; simp only [Act.put, List.setIfInBounds_toArray, List.set_cons_succ, List.set_cons_zero]; go_big_quiet_on) | (refine grown_load_int 3 _ rfl rfl (C2.out) Try.isAgg3 ?_; simp only [Act.put, List.setIfInBounds_toArray, List.set_cons_succ, List.set_cons_zero]; go_big_quiet_on) | (refine grown_load_int 3 _ rfl rfl (C3.out) Try.isAgg3 ?_; simp only [Act.put, List.setIfInBounds_toArray, List.set_cons_succ, List.set_cons_zero]; go_big_quiet_on) | (refine grown_load_int 3 _ rfl rfl (C4.out) Try.isAgg3 ?_; simp only [Act.put, List.setIfInBounds_toArray, List.set_cons_succ, List.set_cons_zero]; go_big_quiet_on) | (refine grown_load_int 3 _ rfl rfl (C5.out) Try.isAgg3 ?_; simp only [Act.put, List.setIfInBounds_toArray, List.set_cons_succ, List.set_cons_zero]; go_big_quiet_on) | (go_big_quiet_op; (first | go_big_quiet_on | (refine ⟨_, fun _ _ => rfl, ?_⟩; go_big_quiet_on) | (apply Exists.intro; refine ⟨fun _ hC => ?_, ?_⟩; (first | fail); go_big_quiet_on))))))
  refine wpQuiet_nil ?_
  intro wg hg
  have R2 := Lib.hid (R1.out.below hg.below R1.out.lt)
  have HB2 := Lib.hid (HB1.out.trans (hg.below.mono HB1.out.size))
  clear hg
  rw [HF.out]
  go_wp2_with (first | (refine wpList_store_blk rfl 22 _ _ rfl (R2.out) rfl rfl sz6 (fun _ _ => rfl) ?_) | fail)
  exact post_blk rfl (R2.out.setRow _) rfl Try.underlying22 sz6 rfl ⟨rfl, below_setRow HB2.out (by (focus (first | omega | (simp; done) | (simp; omega)))) _⟩
end Go.Proofs.Ytiibpnhjdfjdkaa
