
/- Paths in trees, and which nodes a tree has. -/
import Derived.Test.YthciecmofgoebaaGreatDoorI3
import Derived.Test.YthciecmofgoebaaGreatDoorP1
namespace Go.Proofs.YthciecmofgoebaaGreatDoor
open Go.RowKit
def up (ps : List Int) : Nat → Int → List Int
  | 0, _ => []
  | f + 1, x => if x < 0 then [] else x :: up ps f (intAt ps x.toNat)
theorem up_end (ps : List Int) (f : Nat) {x : Int} (h : x < 0) : up ps f x = [] := by cases f <;> simp [up, h]
theorem up_step (ps : List Int) {f m : Nat} (h : m < f) : up ps f m = (m : Int) :: up ps (f - 1) (intAt ps m) := by
  obtain ⟨g, rfl⟩ : ∃ g, f = g + 1 := ⟨f - 1, by omega⟩
  have : ¬ (m : Int) < 0 := by omega
  simp [up, this]
theorem up_len (ps : List Int) (f : Nat) (x : Int) : (up ps f x).length ≤ f := by
  induction f generalizing x with
  | zero => simp [up]
  | succ f ih =>
    simp only [up]; split
    · simp
    · have := ih (intAt ps x.toNat); simp; omega
def pathP (ps : List Int) (x : Int) : List Int := (up ps 9 x).reverse
theorem pathP_len (ps : List Int) (x : Int) : (pathP ps x).length ≤ 9 := by simpa [pathP] using up_len ps 9 x
end Go.Proofs.YthciecmofgoebaaGreatDoor
