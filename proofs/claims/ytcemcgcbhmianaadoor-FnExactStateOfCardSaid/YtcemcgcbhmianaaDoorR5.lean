
/- DropRequest: the program's and the reference's come to one function. -/
import Derived.Test.YtcemcgcbhmianaaDoorR2
import Derived.Test.YtcemcgcbhmianaaDoorK12
namespace Go.Proofs.YtcemcgcbhmianaaDoor
open Go.RowKit
def numIs (number : Int) (r : Request) : Bool := r.number == number
theorem leave_take_succ_no {T : Type} (p : T → Bool) (ts : List T) (k : Nat) (hk : k < ts.length) (h : p ts[k] = true) : leave p (ts.take (k + 1)) = leave p (ts.take k) := filt_no _ ts k hk (by rw [h]; rfl)
theorem leave_take_succ_yes {T : Type} (p : T → Bool) (ts : List T) (k : Nat) (hk : k < ts.length) (h : p ts[k] = false) : leave p (ts.take (k + 1)) = leave p (ts.take k) ++ [ts[k]] := filt_yes _ ts k hk (by rw [h]; rfl)
theorem leave_le {T : Type} (p : T → Bool) (ts : List T) : (leave p ts).length ≤ ts.length := List.length_filter_le _ _
def dropR (ts : List Request) (base number : Int) : List Request := if goodR ts base = true ∧ inR number 0 65535 = true then leave (numIs number) ts else []
def dropB (ts : List Request) (base number : Int) : Bool := goodR ts base && inR number 0 65535
theorem dropR_len (ts : List Request) (base number : Int) : (dropR ts base number).length ≤ ts.length := by
  unfold dropR; split
  · exact leave_le _ _
  · simp
end Go.Proofs.YtcemcgcbhmianaaDoor
