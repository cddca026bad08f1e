
/- Structs of numbers that came in. -/
import Derived.Test.YthdmnngmijbcbaaDoorF
import Derived.Test.YthdmnngmijbcbaaDoorK6
namespace Go.Proofs.YthdmnngmijbcbaaDoor
open Go.ChangeShapes Go.WideShapes Go.ChangeAt Go.RowKit Go.Joins
theorem trod_hold {H : Type} {enc : TypeId × Value → H} {w : World} {n : Nat} {cs : List Value} {x : DataW H × List MemPlace} (h : DataW.trod enc Tryd.prog w 0 (fun _ => true) true n 99 cs = some x) : ∃ t : Hold, cs = t.cells := by
  obtain ⟨l, hl, rfl⟩ := trod_ints Tryd.underlying99 (by kernel_rfl) (by kernel_rfl) (fun i f hf => by
    match i with
    | 0 => simp at hf; subst hf; exact Tryd.underlying3
    | 1 => simp at hf; subst hf; exact Tryd.underlying3
    | i + 2 => simp at hf) h
  match l, hl with
  | [a0, a1], _ => exact ⟨⟨a0, a1⟩, rfl⟩
end Go.Proofs.YthdmnngmijbcbaaDoor
