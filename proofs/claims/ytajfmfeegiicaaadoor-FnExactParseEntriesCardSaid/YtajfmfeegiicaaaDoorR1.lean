
/- Serials: contracts of the functions of numbers that wrap around. -/
import Derived.Test.YtajfmfeegiicaaaDoorK1
namespace Go.Proofs.YtajfmfeegiicaaaDoor
open Go.RowKit
theorem tmod_neg {y : Int} (h : y ≤ 0) : y.tmod 65536 = -((-y) % 65536) := by
  have := Int.neg_tmod (-y) 65536
  rw [Int.neg_neg] at this
  rw [this, Int.tmod_eq_emod_of_nonneg (by omega)]
theorem tmod_bd (y : Int) : -65535 ≤ y.tmod 65536 ∧ y.tmod 65536 ≤ 65535 := by
  rcases Int.le_total 0 y with h | h
  · rw [Int.tmod_eq_emod_of_nonneg h]; omega
  · rw [tmod_neg h]; omega
theorem tmod_fix (y : Int) : (y.tmod 65536 + 65536) % 65536 = y % 65536 := by
  rcases Int.le_total 0 y with h | h
  · rw [Int.tmod_eq_emod_of_nonneg h]; omega
  · rw [tmod_neg h]; omega
def gapI (a b : Int) : Int := (b - a) % 65536
def aftI (x n : Int) : Int := (x + n) % 65536
def befI (a b : Int) : Bool := inR (gapI a b) 1 32767
theorem gapI_bd (a b : Int) : 0 ≤ gapI a b ∧ gapI a b ≤ 65535 := by unfold gapI; omega
theorem aftI_bd (a b : Int) : 0 ≤ aftI a b ∧ aftI a b ≤ 65535 := by unfold aftI; omega
structure Ser (x : Int) : Prop where
  lo : 0 ≤ x
  hi : x ≤ 65535
theorem ser_iff {x : Int} : inR x 0 65535 = true ↔ Ser x := by rw [inR_iff]; exact ⟨fun h => ⟨h.1, h.2⟩, fun h => ⟨h.1, h.2⟩⟩
theorem c_IsSerial (x : Int) {r : Bool} (h : inR x 0 65535 = r) (w : World) : Calls Tryd.prog 35 #[.int .i64 x] w fun e w' => e = .returned (.bool r) ∧ w = w' := by
  go_enter Tryd.func35, Tryd.ntmps35
  go_wp2_with (go_at_call 37; refine (c_within _ _ _ h _).mono ?_; rintro e w1 ⟨rfl, rfl⟩)
  go_ret; exact ⟨rfl, rfl⟩
theorem c_l2Good (x : Int) {r : Bool} (h : inR x 0 65535 = r) (w : World) : Calls Tryd.prog 30 #[.int .i64 x] w fun e w' => e = .returned (.bool r) ∧ w = w' := by
  go_enter Tryd.func30, Tryd.ntmps30
  go_wp2_with (go_at_call 32; refine (c_l1In _ _ _ h _).mono ?_; rintro e w1 ⟨rfl, rfl⟩)
  go_ret; exact ⟨rfl, rfl⟩
theorem c_isClock (x : Int) {r : Bool} (h : inR x 0 9999 = r) (w : World) : Calls Tryd.prog 40 #[.int .i64 x] w fun e w' => e = .returned (.bool r) ∧ w = w' := by
  go_enter Tryd.func40, Tryd.ntmps40
  go_wp2_with (go_at_call 37; refine (c_within _ _ _ h _).mono ?_; rintro e w1 ⟨rfl, rfl⟩)
  go_ret; exact ⟨rfl, rfl⟩
theorem c_l11Clock (x : Int) {r : Bool} (h : inR x 0 9999 = r) (w : World) : Calls Tryd.prog 29 #[.int .i64 x] w fun e w' => e = .returned (.bool r) ∧ w = w' := by
  go_enter Tryd.func29, Tryd.ntmps29
  go_wp2_with (go_at_call 32; refine (c_l1In _ _ _ h _).mono ?_; rintro e w1 ⟨rfl, rfl⟩)
  go_ret; exact ⟨rfl, rfl⟩
end Go.Proofs.YtajfmfeegiicaaaDoor
