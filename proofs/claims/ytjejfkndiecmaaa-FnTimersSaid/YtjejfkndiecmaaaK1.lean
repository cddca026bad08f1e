
/- Contracts of the small functions of numbers. -/
import Derived.Test.YtjejfkndiecmaaaK0
namespace Go.Proofs.Ytjejfkndiecmaaa
open Go.RowKit
def inR (x a b : Int) : Bool := decide (a ≤ x) && decide (x ≤ b)
theorem inR_iff {x a b : Int} : inR x a b = true ↔ a ≤ x ∧ x ≤ b := by simp [inR]
theorem inR_not {x a b : Int} : inR x a b = false ↔ ¬ (a ≤ x ∧ x ≤ b) := by rw [← inR_iff]; simp
theorem inR_mk {x a b : Int} (h : a ≤ x ∧ x ≤ b) : inR x a b = true := inR_iff.2 h
theorem c_l1In (x a b : Int) {r : Bool} (h : inR x a b = r) (w : World) : Calls Try.prog 51 #[.int .i64 x, .int .i64 a, .int .i64 b] w fun e w' => e = .returned (.bool r) ∧ w = w' := by
  subst h
  go_enter Try.func51, Try.ntmps51
  go_wp2
  all_goals (go_ret; refine ⟨ret_bool ?_, rfl⟩; rw [Bool.eq_iff_iff, inR_iff]; simp; omega)
theorem c_within (x a b : Int) {r : Bool} (h : inR x a b = r) (w : World) : Calls Try.prog 49 #[.int .i64 x, .int .i64 a, .int .i64 b] w fun e w' => e = .returned (.bool r) ∧ w = w' := by
  subst h
  go_enter Try.func49, Try.ntmps49
  go_wp2
  all_goals (go_ret; refine ⟨ret_bool ?_, rfl⟩; rw [Bool.eq_iff_iff, inR_iff]; simp; omega)
theorem c_l1Least (a b : Int) {m : Int} (h : min a b = m) (w : World) : Calls Try.prog 52 #[.int .i64 a, .int .i64 b] w fun e w' => e = .returned (.int .i64 m) ∧ w = w' := by
  subst h
  go_enter Try.func52, Try.ntmps52
  go_wp2
  all_goals (go_ret; refine ⟨ret_int ?_, rfl⟩; omega)
theorem c_l1Most (a b : Int) {m : Int} (h : max a b = m) (w : World) : Calls Try.prog 56 #[.int .i64 a, .int .i64 b] w fun e w' => e = .returned (.int .i64 m) ∧ w = w' := by
  subst h
  go_enter Try.func56, Try.ntmps56
  go_wp2
  all_goals (go_ret; refine ⟨ret_int ?_, rfl⟩; omega)
theorem c_l8Tick (x : Int) {r : Bool} (h : inR x 0 10000 = r) (w : World) : Calls Try.prog 55 #[.int .i64 x] w fun e w' => e = .returned (.bool r) ∧ w = w' := by
  subst h
  go_enter Try.func55, Try.ntmps55
  go_wp2_with (go_at_call 51; refine (c_l1In _ _ _ rfl _).mono ?_; rintro e w1 ⟨rfl, rfl⟩)
  go_ret; exact ⟨rfl, rfl⟩
theorem c_isTick (x : Int) {r : Bool} (h : inR x 0 10000 = r) (w : World) : Calls Try.prog 44 #[.int .i64 x] w fun e w' => e = .returned (.bool r) ∧ w = w' := by
  subst h
  go_enter Try.func44, Try.ntmps44
  go_wp2_with (go_at_call 49; refine (c_within _ _ _ rfl _).mono ?_; rintro e w1 ⟨rfl, rfl⟩)
  go_ret; exact ⟨rfl, rfl⟩
structure Timer where
  id : Int
  due : Int
  per : Int
def Timer.cells (t : Timer) : List Value := [.int .i64 t.id, .int .i64 t.due, .int .i64 t.per]
def Timer.val (t : Timer) : Value := .agg #[.int .i64 t.id, .int .i64 t.due, .int .i64 t.per]
def okT (t : Timer) : Bool := inR t.id 1 99 && inR t.due 0 10000 && inR t.per 0 10000
theorem okT_iff {i d p : Int} : okT ⟨i, d, p⟩ = true ↔ (1 ≤ i ∧ i ≤ 99) ∧ (0 ≤ d ∧ d ≤ 10000) ∧ 0 ≤ p ∧ p ≤ 10000 := by
  simp only [okT, Bool.and_eq_true, inR_iff, and_assoc]
theorem x_l8One (i d p : Int) {r : Bool} (h : okT ⟨i, d, p⟩ = r) (w : World) : Calls Try.prog 50 #[.agg #[.int .i64 i, .int .i64 d, .int .i64 p]] w fun e w' => e = .returned (.bool r) ∧ w.alloc (.cells #[.int .i64 i, .int .i64 d, .int .i64 p] 26) = w' := by
  subst h
  go_enter Try.func50, Try.ntmps50
  go_wp2_with (first | (go_at_call 51; refine (c_l1In _ _ _ rfl _).mono ?_; rintro e w1 ⟨rfl, rfl⟩) | (go_at_call 55; refine (c_l8Tick _ rfl _).mono ?_; rintro e w1 ⟨rfl, rfl⟩))
  all_goals (go_ret; refine ⟨ret_bool ?_, rfl⟩; simp [okT, *])
theorem c_l8One (i d p : Int) {r : Bool} (h : okT ⟨i, d, p⟩ = r) (w : World) : Calls Try.prog 50 #[.agg #[.int .i64 i, .int .i64 d, .int .i64 p]] w fun e w' => e = .returned (.bool r) ∧ Bw w w' :=
  (x_l8One i d p h w).mono fun _ _ ⟨he, hw⟩ => ⟨he, hw ▸ (Bw.refl _).alloc _⟩
theorem x_isTimer (i d p : Int) {r : Bool} (h : okT ⟨i, d, p⟩ = r) (w : World) : Calls Try.prog 37 #[.agg #[.int .i64 i, .int .i64 d, .int .i64 p]] w fun e w' => e = .returned (.bool r) ∧ w.alloc (.cells #[.int .i64 i, .int .i64 d, .int .i64 p] 26) = w' := by
  subst h
  go_enter Try.func37, Try.ntmps37
  go_wp2_with (first | (go_at_call 49; refine (c_within _ _ _ rfl _).mono ?_; rintro e w1 ⟨rfl, rfl⟩) | (go_at_call 44; refine (c_isTick _ rfl _).mono ?_; rintro e w1 ⟨rfl, rfl⟩))
  all_goals (go_ret; refine ⟨ret_bool ?_, rfl⟩; simp [okT, *])
theorem c_isTimer (i d p : Int) {r : Bool} (h : okT ⟨i, d, p⟩ = r) (w : World) : Calls Try.prog 37 #[.agg #[.int .i64 i, .int .i64 d, .int .i64 p]] w fun e w' => e = .returned (.bool r) ∧ Bw w w' :=
  (x_isTimer i d p h w).mono fun _ _ ⟨he, hw⟩ => ⟨he, hw ▸ (Bw.refl _).alloc _⟩
end Go.Proofs.Ytjejfkndiecmaaa
