
/- Contracts of the small functions of numbers. -/
import Derived.Test.YtpjljbhodnlhmaaGreatDoorK0
namespace Go.Proofs.YtpjljbhodnlhmaaGreatDoor
open Go.RowKit
def inR (x a b : Int) : Bool := decide (a ≤ x) && decide (x ≤ b)
theorem inR_iff {x a b : Int} : inR x a b = true ↔ a ≤ x ∧ x ≤ b := by simp [inR]
theorem inR_not {x a b : Int} : inR x a b = false ↔ ¬ (a ≤ x ∧ x ≤ b) := by rw [← inR_iff]; simp
theorem inR_mk {x a b : Int} (h : a ≤ x ∧ x ≤ b) : inR x a b = true := inR_iff.2 h
theorem c_l1In (x a b : Int) {r : Bool} (h : inR x a b = r) (w : World) : Calls Tryz.prog 53 #[.int .i64 x, .int .i64 a, .int .i64 b] w fun e w' => e = .returned (.bool r) ∧ w = w' := by
  subst h
  go_enter Tryz.func53, Tryz.ntmps53
  go_wp2
  all_goals (go_ret; refine ⟨ret_bool ?_, rfl⟩; rw [Bool.eq_iff_iff, inR_iff]; simp; omega)
theorem c_within (x a b : Int) {r : Bool} (h : inR x a b = r) (w : World) : Calls Tryz.prog 54 #[.int .i64 x, .int .i64 a, .int .i64 b] w fun e w' => e = .returned (.bool r) ∧ w = w' := by
  subst h
  go_enter Tryz.func54, Tryz.ntmps54
  go_wp2
  all_goals (go_ret; refine ⟨ret_bool ?_, rfl⟩; rw [Bool.eq_iff_iff, inR_iff]; simp; omega)
end Go.Proofs.YtpjljbhodnlhmaaGreatDoor
