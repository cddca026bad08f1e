
/- The table of the powers of ten stands in a world that a row's condition admits. -/
import Derived.Test.YthciecmofgoebaaGreatDoorRows
import Derived.Test.YthciecmofgoebaaGreatDoorW1
namespace Go.Proofs.YthciecmofgoebaaGreatDoor
theorem pow_tab : (Rows.laid_internal_strconv_uint64pow10 : DataW Unit) = Lib.tabData .u64 Lib.pow10Tab := by kernel_rfl
theorem tab10_third {w : World} {x1 x2 : String × DataW Unit} {rest : List (String × DataW Unit)} (h : laidMet Tryz.prog (x1 :: x2 :: ("internal/strconv.uint64pow10", Rows.laid_internal_strconv_uint64pow10) :: rest) w) : Tab10 w := by
  obtain ⟨ps, hv, _⟩ := h
  obtain ⟨q1, hv⟩ := vars_tail hv
  obtain ⟨q2, hv⟩ := vars_tail hv
  rw [pow_tab] at hv
  exact tab_vars (g := 1) (t := 110) (e := 50) (n := 20) (by kernel_rfl) (by kernel_rfl) Tryz.underlying110 Tryz.underlying50 (by kernel_rfl) (by kernel_rfl) hv
end Go.Proofs.YthciecmofgoebaaGreatDoor
