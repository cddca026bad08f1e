
/- Serials: contracts of the functions of numbers that wrap around. -/
import Derived.Test.YtnejeigcdogolaaK1
namespace Go.Proofs.Ytnejeigcdogolaa
open Go.RowKit
theorem tmod_neg {y : Int} (h : y ≤ 0) : y.tmod 65536 = -((-y) % 65536) := by
  have := Int.neg_tmod (-y) 65536
  rw [Int.neg_neg] at this
  rw [this, Int.tmod_eq_emod_of_nonneg (by omega)]
theorem tmod_bd (y : Int) : -65535 ≤ y.tmod 65536 ∧ y.tmod 65536 ≤ 65535 := by
  rcases Int.le_total 0 y with h | h
  · rw [Int.tmod_eq_emod_of_nonneg h]; omega
  · rw [tmod_neg h]; omega
theorem tmod_fix (y : Int) : (y.tmod 65536 + 65536) % 65536 = y % 65536 := by
  rcases Int.le_total 0 y with h | h
  · rw [Int.tmod_eq_emod_of_nonneg h]; omega
  · rw [tmod_neg h]; omega
def gapI (a b : Int) : Int := (b - a) % 65536
def aftI (x n : Int) : Int := (x + n) % 65536
def befI (a b : Int) : Bool := inR (gapI a b) 1 32767
theorem gapI_bd (a b : Int) : 0 ≤ gapI a b ∧ gapI a b ≤ 65535 := by unfold gapI; omega
theorem aftI_bd (a b : Int) : 0 ≤ aftI a b ∧ aftI a b ≤ 65535 := by unfold aftI; omega
structure Ser (x : Int) : Prop where
  lo : 0 ≤ x
  hi : x ≤ 65535
theorem ser_iff {x : Int} : inR x 0 65535 = true ↔ Ser x := by rw [inR_iff]; exact ⟨fun h => ⟨h.1, h.2⟩, fun h => ⟨h.1, h.2⟩⟩
theorem c_IsSerial (x : Int) {r : Bool} (h : inR x 0 65535 = r) (w : World) : Calls Try.prog 42 #[.int .i64 x] w fun e w' => e = .returned (.bool r) ∧ w = w' := by
  go_enter Try.func42, Try.ntmps42
  go_wp2_with (go_at_call 63; refine (c_within _ _ _ h _).mono ?_; rintro e w1 ⟨rfl, rfl⟩)
  go_ret; exact ⟨rfl, rfl⟩
theorem c_l2Good (x : Int) {r : Bool} (h : inR x 0 65535 = r) (w : World) : Calls Try.prog 45 #[.int .i64 x] w fun e w' => e = .returned (.bool r) ∧ w = w' := by
  go_enter Try.func45, Try.ntmps45
  go_wp2_with (go_at_call 65; refine (c_l1In _ _ _ h _).mono ?_; rintro e w1 ⟨rfl, rfl⟩)
  go_ret; exact ⟨rfl, rfl⟩
theorem c_after (x n : Int) {m : Int} (h : aftI x n = m) (h0 : -65536 ≤ x) (h1 : x ≤ 65536) (h2 : -65536 ≤ n) (h3 : n ≤ 65536) (w : World) : Calls Try.prog 66 #[.int .i64 x, .int .i64 n] w fun e w' => e = .returned (.int .i64 m) ∧ w = w' := by
  have H := Lib.hid h
  clear h
  have ⟨b1, b2⟩ := tmod_bd (x + n)
  go_enter Try.func66, Try.ntmps66
  go_wp2
  go_ret
  exact ⟨ret_int (by rw [← H.out]; exact tmod_fix _), rfl⟩
theorem c_gap (a b : Int) {m : Int} (h : gapI a b = m) (h0 : 0 ≤ a) (h1 : a ≤ 65535) (h2 : 0 ≤ b) (h3 : b ≤ 65535) (w : World) : Calls Try.prog 44 #[.int .i64 a, .int .i64 b] w fun e w' => e = .returned (.int .i64 m) ∧ w = w' := by
  have H := Lib.hid h
  clear h
  go_enter Try.func44, Try.ntmps44
  go_wp2_with (go_at_call 66; refine (c_after _ _ (m := m) (by rw [← H.out]; unfold aftI gapI; congr 1) (by omega) (by omega) (by omega) (by omega) _).mono ?_; rintro e w1 ⟨rfl, rfl⟩)
  go_ret; exact ⟨rfl, rfl⟩
theorem c_l2Gap (a b : Int) {m : Int} (h : gapI a b = m) (h0 : 0 ≤ a) (h1 : a ≤ 65535) (h2 : 0 ≤ b) (h3 : b ≤ 65535) (w : World) : Calls Try.prog 64 #[.int .i64 a, .int .i64 b] w fun e w' => e = .returned (.int .i64 m) ∧ w = w' := by
  have H := Lib.hid h
  clear h
  go_enter Try.func64, Try.ntmps64
  go_wp2
  go_ret
  exact ⟨ret_int (by rw [← H.out]; unfold gapI; omega), rfl⟩
theorem c_l2After (x n : Int) {m : Int} (h : aftI x n = m) (h0 : 0 ≤ x) (h1 : x ≤ 65536) (h2 : -65536 ≤ n) (h3 : n ≤ 65536) (w : World) : Calls Try.prog 47 #[.int .i64 x, .int .i64 n] w fun e w' => e = .returned (.int .i64 m) ∧ w = w' := by
  have H := Lib.hid h
  clear h
  go_enter Try.func47, Try.ntmps47
  go_wp2
  go_ret
  exact ⟨ret_int (by rw [← H.out]; unfold aftI; omega), rfl⟩
theorem c_isBefore (a b : Int) {r : Bool} (h : befI a b = r) (h0 : 0 ≤ a) (h1 : a ≤ 65535) (h2 : 0 ≤ b) (h3 : b ≤ 65535) (w : World) : Calls Try.prog 69 #[.int .i64 a, .int .i64 b] w fun e w' => e = .returned (.bool r) ∧ w = w' := by
  have H := Lib.hid h
  clear h
  go_enter Try.func69, Try.ntmps69
  go_wp2_with (first | (go_at_call 44; refine (c_gap _ _ rfl (by omega) (by omega) (by omega) (by omega) _).mono ?_; rintro e w1 ⟨rfl, rfl⟩) | (go_at_call 63; refine (c_within _ _ _ H.out _).mono ?_; rintro e w1 ⟨rfl, rfl⟩))
  go_ret; exact ⟨rfl, rfl⟩
theorem c_l2Before (a b : Int) {r : Bool} (h : befI a b = r) (h0 : 0 ≤ a) (h1 : a ≤ 65535) (h2 : 0 ≤ b) (h3 : b ≤ 65535) (w : World) : Calls Try.prog 70 #[.int .i64 a, .int .i64 b] w fun e w' => e = .returned (.bool r) ∧ w = w' := by
  have H := Lib.hid h
  clear h
  go_enter Try.func70, Try.ntmps70
  go_wp2_with (first | (go_at_call 64; refine (c_l2Gap _ _ rfl (by omega) (by omega) (by omega) (by omega) _).mono ?_; rintro e w1 ⟨rfl, rfl⟩) | (go_at_call 65; refine (c_l1In _ _ _ H.out _).mono ?_; rintro e w1 ⟨rfl, rfl⟩))
  go_ret; exact ⟨rfl, rfl⟩
theorem c_isClock (x : Int) {r : Bool} (h : inR x 0 9999 = r) (w : World) : Calls Try.prog 35 #[.int .i64 x] w fun e w' => e = .returned (.bool r) ∧ w = w' := by
  go_enter Try.func35, Try.ntmps35
  go_wp2_with (go_at_call 63; refine (c_within _ _ _ h _).mono ?_; rintro e w1 ⟨rfl, rfl⟩)
  go_ret; exact ⟨rfl, rfl⟩
theorem c_l11Clock (x : Int) {r : Bool} (h : inR x 0 9999 = r) (w : World) : Calls Try.prog 39 #[.int .i64 x] w fun e w' => e = .returned (.bool r) ∧ w = w' := by
  go_enter Try.func39, Try.ntmps39
  go_wp2_with (go_at_call 65; refine (c_l1In _ _ _ h _).mono ?_; rintro e w1 ⟨rfl, rfl⟩)
  go_ret; exact ⟨rfl, rfl⟩
theorem c_isDelay (x : Int) {r : Bool} (h : inR x 1 8 = r) (w : World) : Calls Try.prog 36 #[.int .i64 x] w fun e w' => e = .returned (.bool r) ∧ w = w' := by
  go_enter Try.func36, Try.ntmps36
  go_wp2_with (go_at_call 63; refine (c_within _ _ _ h _).mono ?_; rintro e w1 ⟨rfl, rfl⟩)
  go_ret; exact ⟨rfl, rfl⟩
theorem c_l12Delay (x : Int) {r : Bool} (h : inR x 1 8 = r) (w : World) : Calls Try.prog 40 #[.int .i64 x] w fun e w' => e = .returned (.bool r) ∧ w = w' := by
  go_enter Try.func40, Try.ntmps40
  go_wp2_with (go_at_call 65; refine (c_l1In _ _ _ h _).mono ?_; rintro e w1 ⟨rfl, rfl⟩)
  go_ret; exact ⟨rfl, rfl⟩
end Go.Proofs.Ytnejeigcdogolaa
