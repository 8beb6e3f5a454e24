/- Contracts of functions of this program, used by the laws of this seat. No condition beyond what each theorem states. -/
import Derived.Test.YtmhlfpcndgoemaaLex
import Derived.Test.YtmhlfpcndgoemaaPart
import Derived.Test.YtmhlfpcndgoemaaTurn2
set_option linter.unusedVariables false
set_option linter.unusedSimpArgs false
set_option linter.unusedSectionVars false
namespace Go.Proofs.Ytmhlfpcndgoemaa
open Go.RowKit

theorem cmpI_anti (x y : Int) : cmpI y x = - cmpI x y := by
  unfold cmpI
  by_cases h1 : x < y
  · rw [if_pos h1, if_neg (by omega), if_pos h1]; rfl
  · by_cases h2 : y < x
    · rw [if_pos h2, if_neg h1, if_pos h2]
    · rw [if_neg h1, if_neg h2, if_neg h2, if_neg h1]; rfl
theorem lexI_anti (a b : Nat → Int) (n k : Nat) : lexI b a n k = - lexI a b n k := by
  induction n generalizing k with
  | zero => rfl
  | succ n ih =>
    simp only [lexI]
    rw [cmpI_anti (a k) (b k)]
    by_cases h : cmpI (a k) (b k) = 0
    · rw [if_pos h, if_pos (by omega), ih]
    · rw [if_neg h, if_neg (by omega)]

def pairF (a b : Nat → Int) : Nat → Int := fun i => if i < 6 then a i else b (i - 6)
abbrev pairV (a b : Nat → Int) : Value := .agg (row 12 (I (pairF a b)))
theorem pairA (a b : Nat → Int) : ∀ i, i < 6 → I (pairF a b) (0 + i) = I a i := fun i hi => by simp [I, pairF, hi]
theorem pairB (a b : Nat → Int) : ∀ i, i < 6 → I (pairF a b) (6 + i) = I b i := fun i hi => by simp [I, pairF]; intro h; omega
theorem szP : (Try.prog.info? 44).map (·.size) = some 12 := by kernel_rfl
theorem zeroP : ∀ w, (zeroValue 44).run Try.prog w = .ok (.agg (row 12 (I fun _ => 0))) w := fun _ => by kernel_rfl
theorem builtP : Try.prog.built 44 [] = some (row 12 (I fun _ => 0)) := by kernel_rfl
theorem madeP (a b : Nat → Int) : Try.prog.built 44 [(0, dieV a), (1, dieV b)] = some (row 12 (I (pairF a b))) := by kernel_rfl
theorem buildP (a b : Nat → Int) (w : World) : (Instr.build 44 #[(0, dieV a), (1, dieV b)]).run Try.prog w = .ok (pairV a b) w := run_build w 44 #[(0, dieV a), (1, dieV b)] _ (madeP a b)

/-- A Pair is built of two dice. -/
theorem wpList_pair {ops : Array Oper} {rest : List Oper} {o : Oper} {a : Act} {w : World} {Q : Exit → Act → World → Prop} (hw : Region.wanted o (yielded ops a.tmps) = true) {x y : Operand} (ho : o.op = .build 44 #[(0, x), (1, y)])
    {d e : Nat → Int} (hx : a.eval x = dieV d) (hy : a.eval y = dieV e) (h : wpList Try.prog ops Q rest (a.put o.dst (pairV d e)) w) : wpList Try.prog ops Q (o :: rest) a w :=
  wpList_build_blk hw 44 #[(0, x), (1, y)] ho (by simpa [hx, hy] using madeP d e) h
noncomputable def goodB (a b : Nat → Int) : Bool := dieB a && (dieB b && decide (lexI a b 6 0 ≤ 0))
def opairF (a b : Nat → Int) : Nat → Int := if 0 < lexI a b 6 0 then pairF b a else pairF a b

theorem pairOf_any (a b : Nat → Int) (w : World) : Calls Try.prog 150 #[dieV a, dieV b] w fun e w' => e = .returned (.agg (row 12 (I (opairF a b)))) ∧ Below w.heap.size w w' := by
  unfold opairF
  by_cases g : 0 < lexI a b 6 0
  · rw [if_pos g]
    go_enter Try.func150, Try.ntmps150
    go_wp2_with (first | (refine wpList_alloc_blk rfl 44 rfl zeroP ?_) | (refine wpList_load_blk rfl 22 _ rfl (((Blk.new _ _ _ _).alloc _).alloc _) rfl Try.underlying22 sz6 ?_) | (refine wpList_load_blk rfl 22 _ rfl ((Blk.newS (b := w.heap.size + 1) (by simp)).alloc _) rfl Try.underlying22 sz6 ?_) | fail)
    go_at_call 142
    refine (compareDice_any a b _).mono ?_
    rintro e w1 ⟨rfl, hb1⟩
    have HB1 := Lib.hid hb1; clear hb1
    have A1 := Lib.hid (show Blk w1 w.heap.size 6 22 (I a) from Blk.below (by (repeat (first | (with_reducible exact Blk.new _ _ _ _) | ((with_reducible refine Blk.newS ?_); (focus (first | rfl | (simp; done)))) | ((with_reducible refine Blk.setRowNew ?_); (focus (first | rfl | (simp; done)))) | ((with_reducible refine Blk.setRowOther ?_ _ _ ?_); rotate_left; (focus (first | omega | (simp; done) | (simp; omega)))) | ((with_reducible refine Blk.other ?_ _ _ ?_); rotate_left; (focus (first | omega | (simp; done) | (simp; omega)))) | (with_reducible refine Blk.alloc ?_ _) | (with_reducible refine Blk.drewN ?_ _)))) HB1.out (by (focus (first | omega | (simp; done) | (simp; omega)))))
    have B1 := Lib.hid (show Blk w1 (w.heap.size + 1) 6 22 (I b) from Blk.below (by (repeat (first | (with_reducible exact Blk.new _ _ _ _) | ((with_reducible refine Blk.newS ?_); (focus (first | rfl | (simp; done)))) | ((with_reducible refine Blk.setRowNew ?_); (focus (first | rfl | (simp; done)))) | ((with_reducible refine Blk.setRowOther ?_ _ _ ?_); rotate_left; (focus (first | omega | (simp; done) | (simp; omega)))) | ((with_reducible refine Blk.other ?_ _ _ ?_); rotate_left; (focus (first | omega | (simp; done) | (simp; omega)))) | (with_reducible refine Blk.alloc ?_ _) | (with_reducible refine Blk.drewN ?_ _)))) HB1.out (by (focus (first | omega | (simp; done) | (simp; omega)))))
    have R1 := Lib.hid (show Blk w1 (w.heap.size + 1 + 1) 12 44 (I fun _ => 0) from Blk.below (by (repeat (first | (with_reducible exact Blk.new _ _ _ _) | ((with_reducible refine Blk.newS ?_); (focus (first | rfl | (simp; done)))) | ((with_reducible refine Blk.setRowNew ?_); (focus (first | rfl | (simp; done)))) | ((with_reducible refine Blk.setRowOther ?_ _ _ ?_); rotate_left; (focus (first | omega | (simp; done) | (simp; omega)))) | ((with_reducible refine Blk.other ?_ _ _ ?_); rotate_left; (focus (first | omega | (simp; done) | (simp; omega)))) | (with_reducible refine Blk.alloc ?_ _) | (with_reducible refine Blk.drewN ?_ _)))) HB1.out (by (focus (first | omega | (simp; done) | (simp; omega)))))
    have HB1 := Lib.hid (Below.trans (show Below w.heap.size w _ from (by (repeat (first | (with_reducible exact Below.refl _ _) | ((with_reducible refine below_setRow ?_ ?_ _); rotate_left; (focus (first | omega | (simp; done) | (simp; omega)))) | ((with_reducible refine Below.setCell ?_ ?_ _); rotate_left; (focus (first | omega | (simp; done) | (simp; omega)))) | ((with_reducible refine Below.alloc ?_ ?_ _); rotate_left; (focus (first | omega | (simp; done) | (simp; omega)))) | (with_reducible refine below_drewN ?_ _))))) (HB1.out.mono (by (focus (first | omega | (simp; done) | (simp; omega))))))
    go_wp2_with (first | (((with_reducible apply wpList_pair); (case hw => rfl); (case ho => rfl); (case hx => rfl); (case hy => rfl))) | (refine wpList_load_blk rfl 22 _ rfl (A1.out) rfl Try.underlying22 sz6 ?_) | (refine wpList_load_blk rfl 22 _ rfl (B1.out) rfl Try.underlying22 sz6 ?_) | (refine wpList_load_blk rfl 22 _ rfl (A3.out) rfl Try.underlying22 sz6 ?_) | (refine wpList_load_blk rfl 22 _ rfl (B3.out) rfl Try.underlying22 sz6 ?_) | (refine wpList_store_abs rfl 22 _ _ rfl (A1.out) rfl rfl sz6 (fun _ _ => rfl) ?_; intro w2 hS hO hB; have A2 := Lib.hid hS; have B2 := Lib.hid (hO _ _ _ _ (ne10 _) B1.out); have R2 := Lib.hid (hO _ _ _ _ (ne20 _) R1.out); have HB2 := Lib.hid (hB _ _ (by (focus (first | omega | (simp; done) | (simp; omega)))) HB1.out); clear hS hO hB) | (refine wpList_store_abs rfl 22 _ _ rfl (B2.out) rfl rfl sz6 (fun _ _ => rfl) ?_; intro w3 hS hO hB; have B3 := Lib.hid hS; have A3 := Lib.hid (hO _ _ _ _ (ne01 _) A2.out); have R3 := Lib.hid (hO _ _ _ _ (ne10 _) R2.out); have HB3 := Lib.hid (hB _ _ (by (focus (first | omega | (simp; done) | (simp; omega)))) HB2.out); clear hS hO hB) | (refine wpList_store_abs rfl 44 _ _ rfl (R3.out) rfl rfl szP (fun _ _ => rfl) ?_; intro w4 hS hO hB; have R4 := Lib.hid hS; have HB4 := Lib.hid (hB _ _ (by (focus (first | omega | (simp; done) | (simp; omega)))) HB3.out); clear hS hO hB) | fail)
    exact post_agg rfl R4.out rfl Try.isAgg44 szP rfl ⟨rfl, HB4.out⟩
  · rw [if_neg g]
    go_enter Try.func150, Try.ntmps150
    go_wp2_with (first | (refine wpList_alloc_blk rfl 44 rfl zeroP ?_) | (refine wpList_load_blk rfl 22 _ rfl (((Blk.new _ _ _ _).alloc _).alloc _) rfl Try.underlying22 sz6 ?_) | (refine wpList_load_blk rfl 22 _ rfl ((Blk.newS (b := w.heap.size + 1) (by simp)).alloc _) rfl Try.underlying22 sz6 ?_) | fail)
    go_at_call 142
    refine (compareDice_any a b _).mono ?_
    rintro e w1 ⟨rfl, hb1⟩
    have HB1 := Lib.hid hb1; clear hb1
    have A1 := Lib.hid (show Blk w1 w.heap.size 6 22 (I a) from Blk.below (by (repeat (first | (with_reducible exact Blk.new _ _ _ _) | ((with_reducible refine Blk.newS ?_); (focus (first | rfl | (simp; done)))) | ((with_reducible refine Blk.setRowNew ?_); (focus (first | rfl | (simp; done)))) | ((with_reducible refine Blk.setRowOther ?_ _ _ ?_); rotate_left; (focus (first | omega | (simp; done) | (simp; omega)))) | ((with_reducible refine Blk.other ?_ _ _ ?_); rotate_left; (focus (first | omega | (simp; done) | (simp; omega)))) | (with_reducible refine Blk.alloc ?_ _) | (with_reducible refine Blk.drewN ?_ _)))) HB1.out (by (focus (first | omega | (simp; done) | (simp; omega)))))
    have B1 := Lib.hid (show Blk w1 (w.heap.size + 1) 6 22 (I b) from Blk.below (by (repeat (first | (with_reducible exact Blk.new _ _ _ _) | ((with_reducible refine Blk.newS ?_); (focus (first | rfl | (simp; done)))) | ((with_reducible refine Blk.setRowNew ?_); (focus (first | rfl | (simp; done)))) | ((with_reducible refine Blk.setRowOther ?_ _ _ ?_); rotate_left; (focus (first | omega | (simp; done) | (simp; omega)))) | ((with_reducible refine Blk.other ?_ _ _ ?_); rotate_left; (focus (first | omega | (simp; done) | (simp; omega)))) | (with_reducible refine Blk.alloc ?_ _) | (with_reducible refine Blk.drewN ?_ _)))) HB1.out (by (focus (first | omega | (simp; done) | (simp; omega)))))
    have R1 := Lib.hid (show Blk w1 (w.heap.size + 1 + 1) 12 44 (I fun _ => 0) from Blk.below (by (repeat (first | (with_reducible exact Blk.new _ _ _ _) | ((with_reducible refine Blk.newS ?_); (focus (first | rfl | (simp; done)))) | ((with_reducible refine Blk.setRowNew ?_); (focus (first | rfl | (simp; done)))) | ((with_reducible refine Blk.setRowOther ?_ _ _ ?_); rotate_left; (focus (first | omega | (simp; done) | (simp; omega)))) | ((with_reducible refine Blk.other ?_ _ _ ?_); rotate_left; (focus (first | omega | (simp; done) | (simp; omega)))) | (with_reducible refine Blk.alloc ?_ _) | (with_reducible refine Blk.drewN ?_ _)))) HB1.out (by (focus (first | omega | (simp; done) | (simp; omega)))))
    have HB1 := Lib.hid (Below.trans (show Below w.heap.size w _ from (by (repeat (first | (with_reducible exact Below.refl _ _) | ((with_reducible refine below_setRow ?_ ?_ _); rotate_left; (focus (first | omega | (simp; done) | (simp; omega)))) | ((with_reducible refine Below.setCell ?_ ?_ _); rotate_left; (focus (first | omega | (simp; done) | (simp; omega)))) | ((with_reducible refine Below.alloc ?_ ?_ _); rotate_left; (focus (first | omega | (simp; done) | (simp; omega)))) | (with_reducible refine below_drewN ?_ _))))) (HB1.out.mono (by (focus (first | omega | (simp; done) | (simp; omega))))))
    go_wp2_with (first | (((with_reducible apply wpList_pair); (case hw => rfl); (case ho => rfl); (case hx => rfl); (case hy => rfl))) | (refine wpList_load_blk rfl 22 _ rfl (A1.out) rfl Try.underlying22 sz6 ?_) | (refine wpList_load_blk rfl 22 _ rfl (B1.out) rfl Try.underlying22 sz6 ?_) | (refine wpList_store_blk rfl 44 _ _ rfl (R1.out) rfl rfl szP (fun _ _ => rfl) ?_) | fail)
    exact post_agg rfl (R1.out.setRow _) rfl Try.isAgg44 szP rfl ⟨rfl, below_setRow HB1.out (by (focus (first | omega | (simp; done) | (simp; omega)))) _⟩
end Go.Proofs.Ytmhlfpcndgoemaa
