
/- Serials: contracts of the functions of numbers that wrap around. -/
import Derived.Test.YtpjljbhodnlhmaaGreatDoorK1
namespace Go.Proofs.YtpjljbhodnlhmaaGreatDoor
open Go.RowKit
theorem tmod_neg {y : Int} (h : y ≤ 0) : y.tmod 65536 = -((-y) % 65536) := by
  have := Int.neg_tmod (-y) 65536
  rw [Int.neg_neg] at this
  rw [this, Int.tmod_eq_emod_of_nonneg (by omega)]
theorem tmod_bd (y : Int) : -65535 ≤ y.tmod 65536 ∧ y.tmod 65536 ≤ 65535 := by
  rcases Int.le_total 0 y with h | h
  · rw [Int.tmod_eq_emod_of_nonneg h]; omega
  · rw [tmod_neg h]; omega
theorem tmod_fix (y : Int) : (y.tmod 65536 + 65536) % 65536 = y % 65536 := by
  rcases Int.le_total 0 y with h | h
  · rw [Int.tmod_eq_emod_of_nonneg h]; omega
  · rw [tmod_neg h]; omega
def gapI (a b : Int) : Int := (b - a) % 65536
def aftI (x n : Int) : Int := (x + n) % 65536
def befI (a b : Int) : Bool := inR (gapI a b) 1 32767
theorem gapI_bd (a b : Int) : 0 ≤ gapI a b ∧ gapI a b ≤ 65535 := by unfold gapI; omega
theorem aftI_bd (a b : Int) : 0 ≤ aftI a b ∧ aftI a b ≤ 65535 := by unfold aftI; omega
structure Ser (x : Int) : Prop where
  lo : 0 ≤ x
  hi : x ≤ 65535
theorem ser_iff {x : Int} : inR x 0 65535 = true ↔ Ser x := by rw [inR_iff]; exact ⟨fun h => ⟨h.1, h.2⟩, fun h => ⟨h.1, h.2⟩⟩
theorem c_IsSerial (x : Int) {r : Bool} (h : inR x 0 65535 = r) (w : World) : Calls Tryz.prog 86 #[.int .i64 x] w fun e w' => e = .returned (.bool r) ∧ w = w' := by
  go_enter Tryz.func86, Tryz.ntmps86
  go_wp2_with (go_at_call 54; refine (c_within _ _ _ h _).mono ?_; rintro e w1 ⟨rfl, rfl⟩)
  go_ret; exact ⟨rfl, rfl⟩
theorem c_l2Good (x : Int) {r : Bool} (h : inR x 0 65535 = r) (w : World) : Calls Tryz.prog 99 #[.int .i64 x] w fun e w' => e = .returned (.bool r) ∧ w = w' := by
  go_enter Tryz.func99, Tryz.ntmps99
  go_wp2_with (go_at_call 53; refine (c_l1In _ _ _ h _).mono ?_; rintro e w1 ⟨rfl, rfl⟩)
  go_ret; exact ⟨rfl, rfl⟩
theorem c_after (x n : Int) {m : Int} (h : aftI x n = m) (h0 : -65536 ≤ x) (h1 : x ≤ 65536) (h2 : -65536 ≤ n) (h3 : n ≤ 65536) (w : World) : Calls Tryz.prog 127 #[.int .i64 x, .int .i64 n] w fun e w' => e = .returned (.int .i64 m) ∧ w = w' := by
  have H := Lib.hid h
  clear h
  have ⟨b1, b2⟩ := tmod_bd (x + n)
  go_enter Tryz.func127, Tryz.ntmps127
  go_wp2
  go_ret
  exact ⟨ret_int (by rw [← H.out]; exact tmod_fix _), rfl⟩
theorem c_gap (a b : Int) {m : Int} (h : gapI a b = m) (h0 : 0 ≤ a) (h1 : a ≤ 65535) (h2 : 0 ≤ b) (h3 : b ≤ 65535) (w : World) : Calls Tryz.prog 88 #[.int .i64 a, .int .i64 b] w fun e w' => e = .returned (.int .i64 m) ∧ w = w' := by
  have H := Lib.hid h
  clear h
  go_enter Tryz.func88, Tryz.ntmps88
  go_wp2_with (go_at_call 127; refine (c_after _ _ (m := m) (by rw [← H.out]; unfold aftI gapI; congr 1) (by omega) (by omega) (by omega) (by omega) _).mono ?_; rintro e w1 ⟨rfl, rfl⟩)
  go_ret; exact ⟨rfl, rfl⟩
theorem c_l2Gap (a b : Int) {m : Int} (h : gapI a b = m) (h0 : 0 ≤ a) (h1 : a ≤ 65535) (h2 : 0 ≤ b) (h3 : b ≤ 65535) (w : World) : Calls Tryz.prog 101 #[.int .i64 a, .int .i64 b] w fun e w' => e = .returned (.int .i64 m) ∧ w = w' := by
  have H := Lib.hid h
  clear h
  go_enter Tryz.func101, Tryz.ntmps101
  go_wp2
  go_ret
  exact ⟨ret_int (by rw [← H.out]; unfold gapI; omega), rfl⟩
theorem c_l2Before (a b : Int) {r : Bool} (h : befI a b = r) (h0 : 0 ≤ a) (h1 : a ≤ 65535) (h2 : 0 ≤ b) (h3 : b ≤ 65535) (w : World) : Calls Tryz.prog 168 #[.int .i64 a, .int .i64 b] w fun e w' => e = .returned (.bool r) ∧ w = w' := by
  have H := Lib.hid h
  clear h
  go_enter Tryz.func168, Tryz.ntmps168
  go_wp2_with (first | (go_at_call 101; refine (c_l2Gap _ _ rfl (by omega) (by omega) (by omega) (by omega) _).mono ?_; rintro e w1 ⟨rfl, rfl⟩) | (go_at_call 53; refine (c_l1In _ _ _ H.out _).mono ?_; rintro e w1 ⟨rfl, rfl⟩))
  go_ret; exact ⟨rfl, rfl⟩
theorem c_isClock (x : Int) {r : Bool} (h : inR x 0 9999 = r) (w : World) : Calls Tryz.prog 85 #[.int .i64 x] w fun e w' => e = .returned (.bool r) ∧ w = w' := by
  go_enter Tryz.func85, Tryz.ntmps85
  go_wp2_with (go_at_call 54; refine (c_within _ _ _ h _).mono ?_; rintro e w1 ⟨rfl, rfl⟩)
  go_ret; exact ⟨rfl, rfl⟩
theorem c_l11Clock (x : Int) {r : Bool} (h : inR x 0 9999 = r) (w : World) : Calls Tryz.prog 98 #[.int .i64 x] w fun e w' => e = .returned (.bool r) ∧ w = w' := by
  go_enter Tryz.func98, Tryz.ntmps98
  go_wp2_with (go_at_call 53; refine (c_l1In _ _ _ h _).mono ?_; rintro e w1 ⟨rfl, rfl⟩)
  go_ret; exact ⟨rfl, rfl⟩
end Go.Proofs.YtpjljbhodnlhmaaGreatDoor
