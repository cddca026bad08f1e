
/- MeetingNode, the program's side. -/
import Derived.Test.YthciecmofgoebaaGreatDoorP4
namespace Go.Proofs.YthciecmofgoebaaGreatDoor
open Go.RowKit
theorem Rd.litI (w : World) (xs : List Int) (cs : Array Value) (t : TypeId) (n : Nat) (hn : xs.length = n) (h : cs.toList = xs.map (.int .i64)) : Rd (w.alloc (.cells cs t)) (some ⟨w.heap.size, 0, none⟩) n 1 (xs.map icell) := by
  refine ⟨by simpa using hn, fun _ => ⟨_, _, rfl, by simp, fun k j l u hk hj => ?_⟩⟩
  rw [List.getElem?_map] at hk
  cases hx : xs[k]? with
  | none => rw [hx] at hk; cases hk
  | some x =>
    rw [hx] at hk
    simp only [Option.map_some, Option.some.injEq] at hk
    subst hk
    have h1 := cell_of_row (w.alloc (.cells cs t)) w.heap.size k cs t (0, 0) (heap_alloc_new w _)
    match j with
    | 0 =>
      simp [icell] at hj
      subst hj
      simp only [Nat.mul_one, Nat.zero_add, Nat.add_zero] at *
      rw [h1, ← Array.getElem?_toList, h, List.getElem?_map, hx]; rfl
    | j + 1 => simp [icell] at hj
theorem setCell_grown (W : World) (b : Nat) (v : Value) : W.grownBy (W.setCell ⟨b, 0, none⟩ v) (some b) :=
  ⟨rfl, rfl, rfl, (by simp), fun k _ hk => Below.heap_setCell _ _ _ k (fun e => hk (by rw [e]))⟩
end Go.Proofs.YthciecmofgoebaaGreatDoor
