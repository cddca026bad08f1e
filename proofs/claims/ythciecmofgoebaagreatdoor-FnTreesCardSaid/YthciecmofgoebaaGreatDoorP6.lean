
/- NodesBelow: both sides come to one function. -/
import Derived.Test.YthciecmofgoebaaGreatDoorP5
namespace Go.Proofs.YthciecmofgoebaaGreatDoor
open Go.RowKit
def belowTo (ps : List Int) (x : Int) (k : Nat) : List Int := ((List.range k).filter (fun (i : Nat) => hasI (pathP ps (i : Int)) x)).map (fun (i : Nat) => (i : Int))
theorem belowTo_yes {ps : List Int} {x : Int} {k : Nat} (h : hasI (pathP ps (k : Int)) x = true) : belowTo ps x (k + 1) = belowTo ps x k ++ [(k : Int)] := by
  simp [belowTo, List.range_succ, h]
theorem belowTo_no {ps : List Int} {x : Int} {k : Nat} (h : hasI (pathP ps (k : Int)) x = false) : belowTo ps x (k + 1) = belowTo ps x k := by
  simp [belowTo, List.range_succ, h]
theorem belowTo_len (ps : List Int) (x : Int) (k : Nat) : (belowTo ps x k).length ≤ k := by
  have := List.length_filter_le (fun (i : Nat) => hasI (pathP ps (i : Int)) x) (List.range k)
  simpa [belowTo] using this
def belowR (ps : List Int) (x : Int) : List Int := if nodeP ps x then belowTo ps x ps.length else []
theorem belowR_len (ps : List Int) (x : Int) : (belowR ps x).length ≤ ps.length := by
  unfold belowR; split
  · exact belowTo_len _ _ _
  · simp
end Go.Proofs.YthciecmofgoebaaGreatDoor
