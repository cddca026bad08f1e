
/- Serials: contracts of the functions of numbers that wrap around. -/
import Derived.Test.YtilgllbojdkhhaaDoorK1
namespace Go.Proofs.YtilgllbojdkhhaaDoor
open Go.RowKit
theorem tmod_neg {y : Int} (h : y ≤ 0) : y.tmod 65536 = -((-y) % 65536) := by
  have := Int.neg_tmod (-y) 65536
  rw [Int.neg_neg] at this
  rw [this, Int.tmod_eq_emod_of_nonneg (by omega)]
theorem tmod_bd (y : Int) : -65535 ≤ y.tmod 65536 ∧ y.tmod 65536 ≤ 65535 := by
  rcases Int.le_total 0 y with h | h
  · rw [Int.tmod_eq_emod_of_nonneg h]; omega
  · rw [tmod_neg h]; omega
theorem tmod_fix (y : Int) : (y.tmod 65536 + 65536) % 65536 = y % 65536 := by
  rcases Int.le_total 0 y with h | h
  · rw [Int.tmod_eq_emod_of_nonneg h]; omega
  · rw [tmod_neg h]; omega
def gapI (a b : Int) : Int := (b - a) % 65536
def aftI (x n : Int) : Int := (x + n) % 65536
def befI (a b : Int) : Bool := inR (gapI a b) 1 32767
theorem gapI_bd (a b : Int) : 0 ≤ gapI a b ∧ gapI a b ≤ 65535 := by unfold gapI; omega
theorem aftI_bd (a b : Int) : 0 ≤ aftI a b ∧ aftI a b ≤ 65535 := by unfold aftI; omega
structure Ser (x : Int) : Prop where
  lo : 0 ≤ x
  hi : x ≤ 65535
theorem ser_iff {x : Int} : inR x 0 65535 = true ↔ Ser x := by rw [inR_iff]; exact ⟨fun h => ⟨h.1, h.2⟩, fun h => ⟨h.1, h.2⟩⟩
end Go.Proofs.YtilgllbojdkhhaaDoor
