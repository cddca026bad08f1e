
/- One cell of an element of a row is stored. -/
import Derived.Test.YtpjljbhodnlhmaaGreatDoorK3
namespace Go.Proofs.YtpjljbhodnlhmaaGreatDoor
open Go.RowKit
section
variable {T : Type} {enc : T → List Value} {sz : Nat} {w : World} {lo : Nat} {e : TypeId} {n c : Nat} {ts : List T}
theorem Row.setAt {g k j : Nat} {v : Value} {t' : T} (h : Row w lo e sz enc (some ⟨g, 0, none⟩) n c ts) (hs : ∀ t, (enc t).length = sz) (hk : k < ts.length) (hj : j < sz) (ht : enc t' = (enc ts[k]).set j v) :
    Row (w.setCell ⟨g, k * sz + j, none⟩ v) lo e sz enc (some ⟨g, 0, none⟩) n c (ts.set k t') ∧ w.grownBy (w.setCell ⟨g, k * sz + j, none⟩ v) (some g) := by
  have s1 := h.own.stored (k * sz + j) v
  have hl := flat_length hs ts
  refine ⟨⟨?_, by simpa using h.len⟩, s1.2⟩
  have e1 := flat_set hs ts k t' hk
  have e0 := flat_set hs ts k ts[k] hk
  rw [List.set_getElem_self] at e0
  rw [e1, ht]
  have hb : (k + 1) * sz ≤ ts.length * sz := Nat.mul_le_mul_right _ (by omega)
  rw [Nat.succ_mul] at hb
  have ht0 : ((ts.flatMap enc).take (k * sz)).length = k * sz := by rw [List.length_take, hl]; exact Nat.min_eq_left (by omega)
  have e2 : (ts.flatMap enc).set (k * sz + j) v = (ts.flatMap enc).take (k * sz) ++ (enc ts[k]).set j v ++ (ts.flatMap enc).drop (k * sz + sz) := by
    have h9 : ((ts.flatMap enc).take (k * sz)).length ≤ k * sz + j := by omega
    have h8 : j < (enc ts[k]).length := by rw [hs]; exact hj
    conv => lhs; rw [e0]
    rw [List.append_assoc, List.set_append_right _ _ h9, ht0, Nat.add_sub_cancel_left, List.set_append_left _ _ h8, List.append_assoc]
  rw [← e2]
  exact s1.1
end
end Go.Proofs.YtpjljbhodnlhmaaGreatDoor
