
/- A timer that came in reads as three numbers. -/
import Derived.Test.YtdfjdfhldijjbaaK2
import Derived.Test.YtdfjdfhldijjbaaK6
namespace Go.Proofs.Ytdfjdfhldijjbaa
open Go.ChangeShapes Go.WideShapes Go.ChangeAt Go.RowKit Go.Joins
theorem trod_timer {H : Type} {enc : TypeId × Value → H} {w : World} {n : Nat} {cs : List Value} {x : DataW H × List MemPlace} (h : DataW.trod enc Try.prog w 0 (fun _ => true) true n 23 cs = some x) : ∃ t : Timer, cs = t.cells := by
  obtain ⟨l, hl, rfl⟩ := trod_ints Try.underlying23 (by kernel_rfl) (by kernel_rfl) (fun i f hf => by
    match i with
    | 0 => simp at hf; subst hf; exact Try.underlying3
    | 1 => simp at hf; subst hf; exact Try.underlying3
    | 2 => simp at hf; subst hf; exact Try.underlying3
    | i + 3 => simp at hf) h
  match l, hl with
  | [a, b, c], _ => exact ⟨⟨a, b, c⟩, rfl⟩
end Go.Proofs.Ytdfjdfhldijjbaa
