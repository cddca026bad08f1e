
/- Structs of numbers that came in. -/
import Derived.Test.YtcemcgcbhmianaaDoorF
import Derived.Test.YtcemcgcbhmianaaDoorK6
namespace Go.Proofs.YtcemcgcbhmianaaDoor
open Go.ChangeShapes Go.WideShapes Go.ChangeAt Go.RowKit Go.Joins
theorem trod_request {H : Type} {enc : TypeId × Value → H} {w : World} {n : Nat} {cs : List Value} {x : DataW H × List MemPlace} (h : DataW.trod enc Tryd.prog w 0 (fun _ => true) true n 111 cs = some x) : ∃ t : Request, cs = t.cells := by
  obtain ⟨l, hl, rfl⟩ := trod_ints Tryd.underlying111 (by kernel_rfl) (by kernel_rfl) (fun i f hf => by
    match i with
    | 0 => simp at hf; subst hf; exact Tryd.underlying3
    | 1 => simp at hf; subst hf; exact Tryd.underlying3
    | 2 => simp at hf; subst hf; exact Tryd.underlying3
    | 3 => simp at hf; subst hf; exact Tryd.underlying3
    | i + 4 => simp at hf) h
  match l, hl with
  | [a0, a1, a2, a3], _ => exact ⟨⟨a0, a1, a2, a3⟩, rfl⟩
end Go.Proofs.YtcemcgcbhmianaaDoor
