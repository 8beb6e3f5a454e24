/- What a row's laid list says of the library's two errors and its table. -/
import Derived.Test.YthjfnfhadgmglaaDoorTabs
import Derived.Test.YthjfnfhadgmglaaDoorReadS
import Derived.Stop.LaidErr
set_option linter.unusedVariables false
set_option linter.unusedSimpArgs false
set_option linter.unusedSectionVars false
namespace Go.Proofs.YthjfnfhadgmglaaDoor
open Go.ChangeShapes Go.WideShapes Go.ChangeAt Go.RowKit
theorem es_star : "*" ++ "errors.errorString" = "*errors.errorString" := by decide
theorem es_row (u : TypeId) (h : Tryd.prog.typeName? 3 u = some "*errors.errorString") : u = 114 :=
  typeName_ptr_named (nm := "errors.errorString") (by rw [es_star]; kernel_rfl) (by kernel_rfl) (by decide) u (by rw [es_star]; exact h)
theorem es_cells : Tryd.prog.cellsOf 116 = 1 := by kernel_rfl
theorem es_cellsS : Tryd.prog.cellsOf 9 = 1 := by kernel_rfl
theorem gSynT : (Tryd.prog.globals[1]?).map (·.type) = some 53 := by kernel_rfl
theorem gRngT : (Tryd.prog.globals[2]?).map (·.type) = some 53 := by kernel_rfl
theorem atoi_vars {l : List (String × DataW Unit)} {W : World} (h : laidMet Tryd.prog l W) (h1 : l.filter (fun y => y.1 == "internal/strconv.uint64pow10") = [("internal/strconv.uint64pow10", Rows.laid_internal_strconv_uint64pow10)])
    (h2 : l.filter (fun y => y.1 == "strconv.ErrSyntax") = [("strconv.ErrSyntax", Rows.laid_strconv_ErrSyntax)]) (h3 : l.filter (fun y => y.1 == "strconv.ErrRange") = [("strconv.ErrRange", Rows.laid_strconv_ErrRange)]) : AtoiVars W where
  tab := tab_of h h1
  syn := by
    obtain ⟨a, s, hv, _⟩ := laid_sentinel (r := []) (h2 ▸ h.filter (fun y => y.1 == "strconv.ErrSyntax")) gSyn gSynT Tryd.underlying53 es_row Tryd.underlying114 Tryd.underlying116 rfl rfl Tryd.underlying9 es_cells es_cellsS
    exact ⟨_, _, hv⟩
  rng := by
    obtain ⟨a, s, hv, _⟩ := laid_sentinel (r := []) (h3 ▸ h.filter (fun y => y.1 == "strconv.ErrRange")) gRng gRngT Tryd.underlying53 es_row Tryd.underlying114 Tryd.underlying116 rfl rfl Tryd.underlying9 es_cells es_cellsS
    exact ⟨_, _, hv⟩
end Go.Proofs.YthjfnfhadgmglaaDoor
