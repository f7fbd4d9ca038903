/- The library's tables and errors, as the rows lay them. -/
import Derived.Test.YtmifpookhhkgeaaDoorTabS
import Derived.Test.YtmifpookhhkgeaaDoorRows
import Derived.Lib.LaidTab
import Derived.Stop.LaidErr
set_option linter.unusedVariables false
namespace Go.Proofs.YtmifpookhhkgeaaDoor.G
open Go.RowKit Go.Lib
theorem pow_data : (Rows.laid_internal_strconv_uint64pow10 : DataW Unit) = Lib.tabData .u64 Lib.pow10Tab := by kernel_rfl
theorem pow_of {W : World} {rest : List (String × DataW Unit)} (h : laidMet Tryd.prog (("internal/strconv.uint64pow10", Rows.laid_internal_strconv_uint64pow10) :: rest) W) : Lib.TabIs Tryd.prog W "internal/strconv.uint64pow10" .u64 Lib.pow10Tab := by
  rw [pow_data] at h
  exact Lib.tabIs_of_head (g := 1) (by kernel_rfl) (by kernel_rfl) Tryd.underlying118 Tryd.underlying84 (by kernel_rfl) (by kernel_rfl) h
end Go.Proofs.YtmifpookhhkgeaaDoor.G
