/- How a pair of dice opens, as an argument of a law. -/
import Derived.Test.YtiibpnhjdfjdkaaFrame
import Derived.Test.YtiibpnhjdfjdkaaPair
set_option linter.unusedVariables false
set_option linter.unusedSimpArgs false
set_option linter.unusedSectionVars false
namespace Go.Proofs.Ytiibpnhjdfjdkaa
open Go.ChangeShapes Go.WideShapes Go.ChangeAt Go.RowKit
theorem cat_eq {α : Type} {a b c d : List α} (h : a = c) (g : b = d) : a ++ b = c ++ d := by rw [h, g]
section
variable {H : Type} {enc : TypeId × Value → H} {P : Program}
theorem open_pair0 {w : World} {r : Reach} {b0 base : Nat} {spare : Nat → Bool} {held : Bool} {t e i : TypeId} {f0 f1 : Field} {v : Value} {d : DataW H} {p : List MemPlace} (ht : P.underlying t = some (.struct #[f0, f1])) (he : P.underlying e = some (.array 6 i)) (hi : P.underlying i = some (.int .i64)) (h0 : f0.type = e) (h1 : f1.type = e) (o0 : f0.offset = 0) (o1 : f1.offset = 6)
    (hci : P.cellsOf i = 1) (hc6 : P.cellsOf e = 6) (hc : P.cellsOf t = 12) (hv : Value.okWide P w r b0 t v) (h : DataW.Trod enc P w base spare held t v d p) :
    ∃ x y : Nat → Int, v = .agg (row 12 (I (pairF x y))) := by
  obtain ⟨cs, rfl, hsz, _⟩ : ∃ cs, v = .agg cs ∧ cs.size = P.cellsOf t ∧ Row.okWide P w r b0 t cs := by
    simpa [Value.okWide, ht] using hv
  obtain ⟨fuel, hf⟩ := h
  obtain ⟨y0, y1, n, _, hl, g0, g1⟩ := trod_struct2 ht hf
  rw [h0] at g0
  rw [h1] at g1
  obtain ⟨x, hx, _⟩ := ints_of_trod he hi hci hc6 g0
  obtain ⟨y, hy, _⟩ := ints_of_trod he hi hci hc6 g1
  rw [hc6, o0] at hx
  rw [hc6, o1] at hy
  rw [hc] at hsz
  have hn : cs.toList.length = 12 := by simpa using hsz
  refine ⟨x, y, ?_⟩
  have e : cs.toList = (List.range 12).map (I (pairF x y)) := by
    have e1 : cs.toList = (cs.toList.drop 0).take 6 ++ (cs.toList.drop 6).take 6 := by
      rw [List.drop_zero]
      rw [List.take_of_length_le (l := cs.toList.drop 6) (by rw [List.length_drop]; omega)]
      exact (List.take_append_drop 6 cs.toList).symm
    rw [e1]
    refine (cat_eq (show (cs.toList.drop 0).take 6 = _ from hx) (show (cs.toList.drop 6).take 6 = _ from hy)).trans ?_
    rfl
  congr 1
  unfold row
  rw [← e]
end
section
variable {H : Type} {enc : TypeId × Value → H}
set_option maxRecDepth 100000 in
theorem open_pair {w : World} {r : Reach} {b0 base : Nat} {spare : Nat → Bool} {held : Bool} {v : Value} {d : DataW H} {p : List MemPlace} (hv : Value.okWide Try.prog w r b0 24 v) (h : DataW.Trod enc Try.prog w base spare held 24 v d p) :
    ∃ x y : Nat → Int, v = pairV x y :=
  open_pair0 Try.underlying24 Try.underlying22 Try.underlying3 rfl rfl rfl rfl (by kernel_rfl) (by kernel_rfl) (by kernel_rfl) hv h
end
end Go.Proofs.Ytiibpnhjdfjdkaa
