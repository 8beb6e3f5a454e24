/- slices.SortedFunc of a map's values, in descending order. -/
import Derived.Test.YtbfhfadfjgfmaaaVals
import Derived.Test.YtbfhfadfjgfmaaaSort6
set_option linter.unusedVariables false
set_option linter.unusedSimpArgs false
set_option linter.unusedSectionVars false
namespace Go.Proofs.Ytbfhfadfjgfmaaa
open Go.RowKit Go.Maps
theorem sortedVals_any {H : Type} (Bm b nn : Nat) (D0 : DataW H) (hN : Maps.size D0 ≤ 12) (hD : ∀ ss, ValsOf D0 ss → 1 ≤ ss.length ∧ ss.length ≤ 12 ∧ ∀ x ∈ ss, -1000000 ≤ x ∧ x ≤ 1000000) (w : World) (hBm : Bm < w.heap.size) (hm : w.cell? ⟨Bm, 0, none⟩ = some (.map (some b))) (hown : w.ownsMap Try.prog 3 (plainElem Try.prog 3) b nn D0) :
    Calls Try.prog 92 #[.func (.func 118) #[] #[.pointer (some ⟨Bm, 0, none⟩)], downP] w fun e w' => ∃ (g cap : Nat) (ss : List Int), e = .returned (.slice (some ⟨g, 0, none⟩) ss.length cap) ∧ ValsOf D0 ss ∧ w.heap.size ≤ g ∧ Ro w' g ss.length 3 (I (plF (fun i => ss.getD i 0) ss.length)) ∧ Below w.heap.size w w' := by
  have HW := Lib.hid hown; clear hown
  have HD := Lib.hid hD; clear hD
  have HM := Lib.hid hm; clear hm
  go_enter Try.func92, Try.ntmps92
  go_wp2_with fail
  go_at_call 116
  refine (collectVals_any Bm b nn D0 (by omega) _ hBm HM.out HW.out).mono ?_
  rintro e w1 ⟨v, ss, rfl, hv, ho, hnil, hb⟩
  obtain ⟨h1, h2, h3⟩ := HD.out ss hv
  obtain ⟨g, cap, rfl, hg⟩ : ∃ g cap, v = .slice (some ⟨g, 0, none⟩) ss.length cap ∧ w.heap.size ≤ g := by
    rcases ho.2 with ⟨_, h0⟩ | ⟨g, cap, cur, hv, hb, _⟩
    · omega
    · exact ⟨g, cap, hv, hb⟩
  obtain ⟨g', F, he, -, -, hnc, hcm, hB, hx, -⟩ := own_form ho (by omega)
  injection he with he
  injection he with he _
  subst he
  have HR := Lib.hid (show Ro w1 g ss.length 3 (I fun i => ss.getD i 0) from ⟨cap * 1, F, by omega, hB, fun p hp => by
    have := hx p (by omega)
    rw [List.getElem?_map, List.getElem?_eq_getElem hp] at this
    simp only [Option.map, Option.some.injEq] at this
    rw [← this]
    simp [I, encZ, List.getD_eq_getElem?_getD, hp]⟩)
  have HV := Lib.hid hv; have HB := Lib.hid hb; have HG := Lib.hid hg
  have HD3 := Lib.hid h3
  clear hB hx ho hv hb hnil hg h3
  go_wp2_with fail
  go_at_call 117
  refine (sortRo_any g ss.length cap (fun i => ss.getD i 0) h2 (fun j hj => HD3.out _ (by simp [List.getD_eq_getElem?_getD, hj])) _ HR.out).mono ?_
  rintro e w2 ⟨rfl, hR2, hG2⟩
  go_wp2
  go_ret
  exact ⟨g, cap, ss, rfl, HV.out, HG.out, hR2, below_grown HB.out hG2 (fun k e => by cases e; exact HG.out) HB.out.size⟩
end Go.Proofs.Ytbfhfadfjgfmaaa
