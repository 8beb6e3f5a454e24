/- How a given row of a law is closed: what is asked of a walk, and how arguments open. -/
import Derived.Test.YtbfhfadfjgfmaaaRows
import Derived.Test.YtbfhfadfjgfmaaaBase
import Derived.ProofKit
import Derived.OpenShut
set_option linter.unusedVariables false
set_option linter.unusedSimpArgs false
set_option linter.unusedSectionVars false
namespace Go.Proofs.Ytbfhfadfjgfmaaa
open Go.ChangeShapes Go.WideShapes Go.ChangeAt Go.RowKit

theorem own : ownKnob Try.prog.godebug = none := by kernel_rfl
theorem laidOut : laidOutB Try.prog = true := by kernel_rfl

section
variable {H : Type} {enc : TypeId × Value → H} {P : Program}
theorem trodAll_below (hl : laidOutB P = true) {W W' : World} (hb : Below W.heap.size W W') : ∀ (ts : List TypeId) (vs : List Value) (ds : List (DataW H)) (ps : List MemPlace),
    (∀ t ∈ ts, P.readableRec t = true ∧ t < P.types.size) → (∀ x ∈ ps, x.block < W.heap.size) → DataW.TrodAll enc P W 0 (fun _ => true) true ts vs ds ps →
    DataW.TrodAll enc P W' 0 (fun b => decide (b < W.heap.size)) true ts vs ds ps
  | [], [], [], _, _, _, h => h
  | t :: ts, v :: vs, d :: ds, ps, ht, hp, h => by
    obtain ⟨p, q, h1, h2, rfl⟩ := h
    have ht0 := ht t (by simp)
    exact ⟨p, q, Below.trod hl ht0.1 ht0.2 h1 hb (fun x hx => hp x (by simp [hx])), trodAll_below hl hb ts vs ds q (fun t' h' => ht t' (by simp [h'])) (fun x hx => hp x (by simp [hx])) h2, rfl⟩
  | [], _ :: _, _, _, _, _, h => by simp [DataW.TrodAll] at h
  | [], [], _ :: _, _, _, _, h => by simp [DataW.TrodAll] at h
  | _ :: _, [], _, _, _, _, h => by simp [DataW.TrodAll] at h
  | _ :: _, _ :: _, [], _, _, _, h => by simp [DataW.TrodAll] at h

theorem law_post {fn : Func} {s : ChangeSpec} {apart : Bool} {W W' : World} {args : Array Value} {ds gs : List (DataW H)} {before : List MemPlace} (hl : laidOutB P = true) {B : TypeId} (hB : P.underlying B = some .bool)
    (hr : fn.resultTypes = #[B]) (ht : ∀ t ∈ fn.params.toList, P.readableRec t = true ∧ t < P.types.size) (hs : s.vars = [])
    (hW : DataW.Whole enc P fn.params.toList s.vars apart W args.toList ds gs before) (h1 : (s.fn H (ds ++ gs)).results = [.lit (.bool true)]) (h2 : (s.fn H (ds ++ gs)).args = ds) (h3 : (s.fn H (ds ++ gs)).vars = [])
    (hb : Below W.heap.size W W') : s.post enc P fn apart true false false W args (.bool true) W' := by
  have hlt := hW.lt
  have hW' := hW
  obtain ⟨p, q, hA, hV, rfl, hfz, hnd⟩ := hW
  refine ⟨ds, gs, p ++ q, [], p, [], hW', ?_, ?_, ?_, hb.frame _, fun h => by cases h⟩
  · rw [h1, hr]; exact trodAll_mk1 (shut_bool hB _)
  · rw [h2]; exact trodAll_below hl hb _ _ _ _ ht (fun x hx => hlt x (by simp [hx])) hA
  · rw [h3, hs]; rfl


/-- The cells of an array of ints, read as data. -/
theorem ints_of_trod {w : World} {base : Nat} {spare : Nat → Bool} {held : Bool} {fuel n : Nat} {t e : TypeId} {cs : List Value} {x : DataW H × List MemPlace} (ht : P.underlying t = some (.array n e)) (he : P.underlying e = some (.int .i64)) (hc : P.cellsOf e = 1)
    (hC : P.cellsOf t = n) (h : DataW.trod enc P w base spare held fuel t cs = some x) : ∃ d : Nat → Int, cs = (List.range n).map (I d) ∧ ∀ i, i < n → -9223372036854775808 ≤ d i ∧ d i ≤ 9223372036854775807 := by
  obtain ⟨xs, m, _, _, hl, hxl, hx⟩ := DataW.trod_array ht h
  rw [hC] at hl
  have key : ∀ i, ∃ z : Int, i < n → cs[i]? = some (.int .i64 z) ∧ -9223372036854775808 ≤ z ∧ z ≤ 9223372036854775807 := by
    intro i
    by_cases hi : i < n
    · have h1 := hx i hi
      rw [hc, Nat.mul_one] at h1
      rw [show xs[i]? = some (xs[i]'(by omega)) from List.getElem?_eq_getElem (by omega)] at h1
      obtain ⟨z, e0, _, wz⟩ := DataW.trod_int he h1
      rw [List.drop_eq_getElem_cons (show i < cs.length by omega), List.take_succ_cons, List.take_zero] at e0
      have e0 := (List.cons.inj e0).1
      have := bounds_i64 wz
      exact ⟨z, fun _ => ⟨by rw [List.getElem?_eq_getElem (show i < cs.length by omega)]; exact congrArg some e0, this.1, this.2⟩⟩
    · exact ⟨0, fun h => absurd h hi⟩
  refine ⟨fun i => (key i).choose, ?_, fun i hi => ((key i).choose_spec hi).2⟩
  apply List.ext_getElem?
  intro i
  by_cases hi : i < n
  · rw [((key i).choose_spec hi).1]
    simp [hi, I]
  · rw [List.getElem?_eq_none (by omega), List.getElem?_eq_none (by simp; omega)]

/-- An array of ints, by value. -/
theorem open_arr {w : World} {r : Reach} {b0 base : Nat} {spare : Nat → Bool} {held : Bool} {n : Nat} {t e : TypeId} {v : Value} {d : DataW H} {p : List MemPlace} (ht : P.underlying t = some (.array n e)) (he : P.underlying e = some (.int .i64)) (hc : P.cellsOf e = 1)
    (hC : P.cellsOf t = n) (hv : Value.okWide P w r b0 t v) (h : DataW.Trod enc P w base spare held t v d p) :
    ∃ x : Nat → Int, v = .agg (row n (I x)) ∧ ∀ i, i < n → -9223372036854775808 ≤ x i ∧ x i ≤ 9223372036854775807 := by
  obtain ⟨cs, rfl, hsz, _⟩ : ∃ cs, v = .agg cs ∧ cs.size = P.cellsOf t ∧ Row.okWide P w r b0 t cs := by
    simpa [Value.okWide, ht] using hv
  obtain ⟨fuel, hf⟩ := h
  obtain ⟨x, hx, hb⟩ := ints_of_trod ht he hc hC hf
  refine ⟨x, ?_, hb⟩
  congr 1
  unfold row
  rw [← hx]
  rfl
end
end Go.Proofs.Ytbfhfadfjgfmaaa
