
/- Serials: contracts of the functions of numbers that wrap around. -/
import Derived.Test.YtcemcgcbhmianaaDoorK1
namespace Go.Proofs.YtcemcgcbhmianaaDoor
open Go.RowKit
theorem tmod_neg {y : Int} (h : y ≤ 0) : y.tmod 65536 = -((-y) % 65536) := by
  have := Int.neg_tmod (-y) 65536
  rw [Int.neg_neg] at this
  rw [this, Int.tmod_eq_emod_of_nonneg (by omega)]
theorem tmod_bd (y : Int) : -65535 ≤ y.tmod 65536 ∧ y.tmod 65536 ≤ 65535 := by
  rcases Int.le_total 0 y with h | h
  · rw [Int.tmod_eq_emod_of_nonneg h]; omega
  · rw [tmod_neg h]; omega
theorem tmod_fix (y : Int) : (y.tmod 65536 + 65536) % 65536 = y % 65536 := by
  rcases Int.le_total 0 y with h | h
  · rw [Int.tmod_eq_emod_of_nonneg h]; omega
  · rw [tmod_neg h]; omega
def gapI (a b : Int) : Int := (b - a) % 65536
def aftI (x n : Int) : Int := (x + n) % 65536
def befI (a b : Int) : Bool := inR (gapI a b) 1 32767
theorem gapI_bd (a b : Int) : 0 ≤ gapI a b ∧ gapI a b ≤ 65535 := by unfold gapI; omega
theorem aftI_bd (a b : Int) : 0 ≤ aftI a b ∧ aftI a b ≤ 65535 := by unfold aftI; omega
structure Ser (x : Int) : Prop where
  lo : 0 ≤ x
  hi : x ≤ 65535
theorem ser_iff {x : Int} : inR x 0 65535 = true ↔ Ser x := by rw [inR_iff]; exact ⟨fun h => ⟨h.1, h.2⟩, fun h => ⟨h.1, h.2⟩⟩
theorem c_IsSerial (x : Int) {r : Bool} (h : inR x 0 65535 = r) (w : World) : Calls Tryd.prog 51 #[.int .i64 x] w fun e w' => e = .returned (.bool r) ∧ w = w' := by
  go_enter Tryd.func51, Tryd.ntmps51
  go_wp2_with (go_at_call 90; refine (c_within _ _ _ h _).mono ?_; rintro e w1 ⟨rfl, rfl⟩)
  go_ret; exact ⟨rfl, rfl⟩
theorem c_l2Good (x : Int) {r : Bool} (h : inR x 0 65535 = r) (w : World) : Calls Tryd.prog 58 #[.int .i64 x] w fun e w' => e = .returned (.bool r) ∧ w = w' := by
  go_enter Tryd.func58, Tryd.ntmps58
  go_wp2_with (go_at_call 94; refine (c_l1In _ _ _ h _).mono ?_; rintro e w1 ⟨rfl, rfl⟩)
  go_ret; exact ⟨rfl, rfl⟩
theorem c_after (x n : Int) {m : Int} (h : aftI x n = m) (h0 : -65536 ≤ x) (h1 : x ≤ 65536) (h2 : -65536 ≤ n) (h3 : n ≤ 65536) (w : World) : Calls Tryd.prog 57 #[.int .i64 x, .int .i64 n] w fun e w' => e = .returned (.int .i64 m) ∧ w = w' := by
  have H := Lib.hid h
  clear h
  have ⟨b1, b2⟩ := tmod_bd (x + n)
  go_enter Tryd.func57, Tryd.ntmps57
  go_wp2
  go_ret
  exact ⟨ret_int (by rw [← H.out]; exact tmod_fix _), rfl⟩
theorem c_gap (a b : Int) {m : Int} (h : gapI a b = m) (h0 : 0 ≤ a) (h1 : a ≤ 65535) (h2 : 0 ≤ b) (h3 : b ≤ 65535) (w : World) : Calls Tryd.prog 63 #[.int .i64 a, .int .i64 b] w fun e w' => e = .returned (.int .i64 m) ∧ w = w' := by
  have H := Lib.hid h
  clear h
  go_enter Tryd.func63, Tryd.ntmps63
  go_wp2_with (go_at_call 57; refine (c_after _ _ (m := m) (by rw [← H.out]; unfold aftI gapI; congr 1) (by omega) (by omega) (by omega) (by omega) _).mono ?_; rintro e w1 ⟨rfl, rfl⟩)
  go_ret; exact ⟨rfl, rfl⟩
theorem c_l2Gap (a b : Int) {m : Int} (h : gapI a b = m) (h0 : 0 ≤ a) (h1 : a ≤ 65535) (h2 : 0 ≤ b) (h3 : b ≤ 65535) (w : World) : Calls Tryd.prog 61 #[.int .i64 a, .int .i64 b] w fun e w' => e = .returned (.int .i64 m) ∧ w = w' := by
  have H := Lib.hid h
  clear h
  go_enter Tryd.func61, Tryd.ntmps61
  go_wp2
  go_ret
  exact ⟨ret_int (by rw [← H.out]; unfold gapI; omega), rfl⟩
theorem c_l2After (x n : Int) {m : Int} (h : aftI x n = m) (h0 : 0 ≤ x) (h1 : x ≤ 65536) (h2 : -65536 ≤ n) (h3 : n ≤ 65536) (w : World) : Calls Tryd.prog 56 #[.int .i64 x, .int .i64 n] w fun e w' => e = .returned (.int .i64 m) ∧ w = w' := by
  have H := Lib.hid h
  clear h
  go_enter Tryd.func56, Tryd.ntmps56
  go_wp2
  go_ret
  exact ⟨ret_int (by rw [← H.out]; unfold aftI; omega), rfl⟩
theorem c_isBefore (a b : Int) {r : Bool} (h : befI a b = r) (h0 : 0 ≤ a) (h1 : a ≤ 65535) (h2 : 0 ≤ b) (h3 : b ≤ 65535) (w : World) : Calls Tryd.prog 96 #[.int .i64 a, .int .i64 b] w fun e w' => e = .returned (.bool r) ∧ w = w' := by
  have H := Lib.hid h
  clear h
  go_enter Tryd.func96, Tryd.ntmps96
  go_wp2_with (first | (go_at_call 63; refine (c_gap _ _ rfl (by omega) (by omega) (by omega) (by omega) _).mono ?_; rintro e w1 ⟨rfl, rfl⟩) | (go_at_call 90; refine (c_within _ _ _ H.out _).mono ?_; rintro e w1 ⟨rfl, rfl⟩))
  go_ret; exact ⟨rfl, rfl⟩
theorem c_l2Before (a b : Int) {r : Bool} (h : befI a b = r) (h0 : 0 ≤ a) (h1 : a ≤ 65535) (h2 : 0 ≤ b) (h3 : b ≤ 65535) (w : World) : Calls Tryd.prog 95 #[.int .i64 a, .int .i64 b] w fun e w' => e = .returned (.bool r) ∧ w = w' := by
  have H := Lib.hid h
  clear h
  go_enter Tryd.func95, Tryd.ntmps95
  go_wp2_with (first | (go_at_call 61; refine (c_l2Gap _ _ rfl (by omega) (by omega) (by omega) (by omega) _).mono ?_; rintro e w1 ⟨rfl, rfl⟩) | (go_at_call 94; refine (c_l1In _ _ _ H.out _).mono ?_; rintro e w1 ⟨rfl, rfl⟩))
  go_ret; exact ⟨rfl, rfl⟩
theorem c_isClock (x : Int) {r : Bool} (h : inR x 0 9999 = r) (w : World) : Calls Tryd.prog 71 #[.int .i64 x] w fun e w' => e = .returned (.bool r) ∧ w = w' := by
  go_enter Tryd.func71, Tryd.ntmps71
  go_wp2_with (go_at_call 90; refine (c_within _ _ _ h _).mono ?_; rintro e w1 ⟨rfl, rfl⟩)
  go_ret; exact ⟨rfl, rfl⟩
theorem c_l11Clock (x : Int) {r : Bool} (h : inR x 0 9999 = r) (w : World) : Calls Tryd.prog 102 #[.int .i64 x] w fun e w' => e = .returned (.bool r) ∧ w = w' := by
  go_enter Tryd.func102, Tryd.ntmps102
  go_wp2_with (go_at_call 94; refine (c_l1In _ _ _ h _).mono ?_; rintro e w1 ⟨rfl, rfl⟩)
  go_ret; exact ⟨rfl, rfl⟩
end Go.Proofs.YtcemcgcbhmianaaDoor
