
/- Structs of numbers that came in. -/
import Derived.Test.YtpjljbhodnlhmaaGreatDoorF
import Derived.Test.YtpjljbhodnlhmaaGreatDoorK6
namespace Go.Proofs.YtpjljbhodnlhmaaGreatDoor
open Go.ChangeShapes Go.WideShapes Go.ChangeAt Go.RowKit Go.Joins
theorem trod_request {H : Type} {enc : TypeId × Value → H} {w : World} {n : Nat} {cs : List Value} {x : DataW H × List MemPlace} (h : DataW.trod enc Tryz.prog w 0 (fun _ => true) true n 189 cs = some x) : ∃ t : Request, cs = t.cells := by
  obtain ⟨l, hl, rfl⟩ := trod_ints Tryz.underlying189 (by kernel_rfl) (by kernel_rfl) (fun i f hf => by
    match i with
    | 0 => simp at hf; subst hf; exact Tryz.underlying3
    | 1 => simp at hf; subst hf; exact Tryz.underlying3
    | 2 => simp at hf; subst hf; exact Tryz.underlying3
    | 3 => simp at hf; subst hf; exact Tryz.underlying3
    | i + 4 => simp at hf) h
  match l, hl with
  | [a0, a1, a2, a3], _ => exact ⟨⟨a0, a1, a2, a3⟩, rfl⟩
theorem trod_hold {H : Type} {enc : TypeId × Value → H} {w : World} {n : Nat} {cs : List Value} {x : DataW H × List MemPlace} (h : DataW.trod enc Tryz.prog w 0 (fun _ => true) true n 161 cs = some x) : ∃ t : Hold, cs = t.cells := by
  obtain ⟨l, hl, rfl⟩ := trod_ints Tryz.underlying161 (by kernel_rfl) (by kernel_rfl) (fun i f hf => by
    match i with
    | 0 => simp at hf; subst hf; exact Tryz.underlying3
    | 1 => simp at hf; subst hf; exact Tryz.underlying3
    | i + 2 => simp at hf) h
  match l, hl with
  | [a0, a1], _ => exact ⟨⟨a0, a1⟩, rfl⟩
end Go.Proofs.YtpjljbhodnlhmaaGreatDoor
