
/- Rows that lie apart. -/
import Derived.Test.YtjejfkndiecmaaaK7
namespace Go.Proofs.Ytjejfkndiecmaaa
open Go.RowKit
def Apart (A B : Option Addr) : Prop := ∀ x y, A = some x → B = some y → x.block ≠ y.block
theorem Apart.symm {A B : Option Addr} (h : Apart A B) : Apart B A := fun x y hx hy he => h y x hy hx he.symm
theorem Apart.noneL {B : Option Addr} : Apart none B := fun x y hx => by cases hx
theorem Apart.noneR {A : Option Addr} : Apart A none := fun x y _ hy => by cases hy
section
variable {T : Type} {w w' : World} {lo : Nat} {e : TypeId} {sz : Nat} {enc : T → List Value} {A B : Option Addr} {n c : Nat} {ts : List T}
theorem ownBlock_ne (ha : Apart A B) {m d : Nat} : ∀ x, B = some x → Value.ownBlock (.slice A m d) ≠ some x.block := fun x hx he => by
  cases A with
  | none => simp [Value.ownBlock] at he
  | some y => simp only [Value.ownBlock, Option.some.injEq] at he; exact ha y x rfl hx he
theorem Row.apart (h : Row w lo e sz enc B n c ts) {m d : Nat} (hg : w.grownBy w' (Value.ownBlock (.slice A m d))) (ha : Apart A B) : Row w' lo e sz enc B n c ts := h.grown hg (ownBlock_ne ha)
theorem Rd.apart {xs : List (List Value)} (h : Rd w B n sz xs) {m d : Nat} (hg : w.grownBy w' (Value.ownBlock (.slice A m d))) (ha : Apart A B) : Rd w' B n sz xs := h.grown hg (ownBlock_ne ha)
theorem Apart.moved (ha : Apart A B) (h : Row w lo e sz enc B n c ts) {A2 : Option Addr} {s : Nat} (hs : w.heap.size ≤ s) (hm : ∃ x, A2 = some x ∧ (s < x.block ∨ ∃ y, A = some y ∧ x.block = y.block)) : Apart A2 B := fun x y hx hy => by
  obtain ⟨z, hz, h1⟩ := hm
  obtain rfl : z = x := by rw [hz] at hx; exact Option.some.inj hx
  rcases h1 with h1 | ⟨v, hv, h1⟩
  · have := (h.lt y hy).2; omega
  · rw [h1]; exact ha v y hv hy
/-- A row that is made later lies apart from an elder one. -/
theorem Row.later {T' : Type} {w0 : World} {lo' : Nat} {e' : TypeId} {sz' : Nat} {enc' : T' → List Value} {n' c' : Nat} {ts' : List T'} (h : Row w0 lo e sz enc A n c ts) (h' : Row w' lo' e' sz' enc' B n' c' ts') (hl : w0.heap.size ≤ lo') : Apart A B := fun x y hx hy he => by
  have := (h.lt x hx).2
  have := (h'.lt y hy).1
  omega
end
def lenV : Value → Nat
  | .slice _ n _ => n
  | _ => 0
end Go.Proofs.Ytjejfkndiecmaaa
