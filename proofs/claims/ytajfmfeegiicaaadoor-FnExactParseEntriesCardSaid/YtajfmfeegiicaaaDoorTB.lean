
/- The table of the powers of ten stands in a world that a row's condition admits. -/
import Derived.Test.YtajfmfeegiicaaaDoorRows
import Derived.Test.YtajfmfeegiicaaaDoorW1
namespace Go.Proofs.YtajfmfeegiicaaaDoor
theorem pow_tab : (Rows.laid_internal_strconv_uint64pow10 : DataW Unit) = Lib.tabData .u64 Lib.pow10Tab := by kernel_rfl
theorem tab10_third {w : World} {x1 x2 : String × DataW Unit} {rest : List (String × DataW Unit)} (h : laidMet Tryd.prog (x1 :: x2 :: ("internal/strconv.uint64pow10", Rows.laid_internal_strconv_uint64pow10) :: rest) w) : Tab10 w := by
  obtain ⟨ps, hv, _⟩ := h
  obtain ⟨q1, hv⟩ := vars_tail hv
  obtain ⟨q2, hv⟩ := vars_tail hv
  rw [pow_tab] at hv
  exact tab_vars (g := 3) (t := 114) (e := 99) (n := 20) (by kernel_rfl) (by kernel_rfl) Tryd.underlying114 Tryd.underlying99 (by kernel_rfl) (by kernel_rfl) hv
end Go.Proofs.YtajfmfeegiicaaaDoor
