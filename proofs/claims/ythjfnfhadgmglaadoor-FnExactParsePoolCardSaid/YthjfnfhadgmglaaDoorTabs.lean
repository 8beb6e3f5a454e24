/- What a row's laid list says of the library's variables. -/
import Derived.Test.YthjfnfhadgmglaaDoorFrameSh
import Derived.LaidSub
import Derived.Lib.ItoaNum
import Derived.Lib.AppendIntMem
import Derived.Lib.LaidTab
set_option linter.unusedVariables false
set_option linter.unusedSimpArgs false
set_option linter.unusedSectionVars false
namespace Go.Proofs.YthjfnfhadgmglaaDoor
open Go.ChangeShapes Go.WideShapes Go.ChangeAt Go.RowKit
theorem tab_data : (Rows.laid_internal_strconv_uint64pow10 : DataW Unit) = Lib.tabData .u64 Lib.pow10Tab := by kernel_rfl
theorem tab_glob : Tryd.prog.globalNamed "internal/strconv.uint64pow10" = some 3 := by kernel_rfl
theorem tab_globT : (Tryd.prog.globals[3]?).map (·.type) = some 107 := by kernel_rfl
theorem tab_one {W : World} (h : laidMet Tryd.prog [("internal/strconv.uint64pow10", Rows.laid_internal_strconv_uint64pow10)] W) : Lib.TabIs Tryd.prog W "internal/strconv.uint64pow10" .u64 Lib.pow10Tab := by
  obtain ⟨ps, h3, _⟩ := h
  obtain ⟨g', t', cs, fuel, p, q, hg', ht', hvar, hd, _, _⟩ := h3
  obtain rfl := Option.some.inj (tab_glob.symm.trans hg')
  obtain rfl := Option.some.inj (tab_globT.symm.trans ht')
  unfold Lib.TabIs
  rw [tab_data] at hd
  rw [hvar, ← Lib.cells_of_tab Tryd.underlying107 Tryd.underlying88 (by kernel_rfl) (by kernel_rfl) hd]
theorem tab_of {l : List (String × DataW Unit)} {W : World} (h : laidMet Tryd.prog l W) (hl : l.filter (fun y => y.1 == "internal/strconv.uint64pow10") = [("internal/strconv.uint64pow10", Rows.laid_internal_strconv_uint64pow10)]) : Lib.TabIs Tryd.prog W "internal/strconv.uint64pow10" .u64 Lib.pow10Tab :=
  tab_one (hl ▸ h.filter (fun y => y.1 == "internal/strconv.uint64pow10"))
end Go.Proofs.YthjfnfhadgmglaaDoor
