
/- MeetingNode: both sides come to one function. -/
import Derived.Test.YthciecmofgoebaaGreatDoorP3
import Derived.Deep.RegionHeld3
namespace Go.Proofs.YthciecmofgoebaaGreatDoor
open Go.RowKit
def meetTo (pb pa : List Int) (k : Nat) : Int := (pa.take k).foldl (fun m x => if hasI pb x then x else m) 0
theorem meetTo_zero (pb pa : List Int) : meetTo pb pa 0 = 0 := by simp [meetTo]
theorem meetTo_yes {pb pa : List Int} {k : Nat} (hk : k < pa.length) (h : hasI pb (intAt pa k) = true) : meetTo pb pa (k + 1) = intAt pa k := by
  rw [meetTo, List.take_succ_eq_append_getElem hk, List.foldl_append, ← intAt_lt hk]; simp [h]
theorem meetTo_no {pb pa : List Int} {k : Nat} (hk : k < pa.length) (h : hasI pb (intAt pa k) = false) : meetTo pb pa (k + 1) = meetTo pb pa k := by
  rw [meetTo, List.take_succ_eq_append_getElem hk, List.foldl_append, ← intAt_lt hk]; simp [h, meetTo]
def meetC (ps : List Int) (a b : Int) : Bool := goodP ps && (inR a 0 ((ps.length : Int) - 1) && inR b 0 ((ps.length : Int) - 1))
def meetN (ps : List Int) (a b : Int) : Int := if meetC ps a b then meetTo (pathP ps b) (pathP ps a) (pathP ps a).length else 0
theorem meetC_nodes (ps : List Int) (a b : Int) : meetC ps a b = (nodeP ps a && nodeP ps b) := by
  unfold meetC nodeP; cases goodP ps <;> simp
end Go.Proofs.YthciecmofgoebaaGreatDoor
