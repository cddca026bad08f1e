
/- The library's Clone and Delete at rows of structs: contracts. -/
import Derived.Test.YtpjljbhodnlhmaaGreatDoorK10
namespace Go.Proofs.YtpjljbhodnlhmaaGreatDoor
open Go.RowKit
theorem oneRequest : ∀ (t : Request) (u : Value), u ∈ t.cells → u.oneCell' = true := by
  intro t u hu
  simp only [Request.cells, List.mem_cons, List.not_mem_nil, or_false] at hu
  rcases hu with rfl | rfl | rfl | rfl <;> rfl
theorem append_Request {w0 : World} {lo : Nat} {ops : Array Oper} {rest : List Oper} {o : Oper} {a : Act} {Q : Exit → Act → World → Prop} (hgd : o.guard = none) (s x : Operand)
    (ho : o.op = .call { callee := .builtin .append, args := #[s, x], argTypes := #[94, 94] }) (A : Option Addr) (n c : Nat) (xs : List Request) (hs : a.eval s = .slice A n c) (hown : Row w0 lo 151 4 Request.cells A n c xs) (y : Request)
    (cs : Array Value) (hcs : y.cells = cs.toList) (B : Nat) (hx : a.eval x = .slice (some ⟨B, 0, none⟩) 1 1) (hB : w0.heap.size = B) (hn : n < 1000000) (hlo : lo ≤ w0.heap.size)
    (h : ∀ A2 c2 w', Row w' lo 151 4 Request.cells A2 (n + 1) c2 (xs ++ [y]) → w0.grownBy w' (Value.ownBlock (.slice A n c)) → (∃ x, A2 = some x ∧ (w0.heap.size < x.block ∨ ∃ y, A = some y ∧ x.block = y.block)) → wpList Tryz.prog ops Q rest (a.put o.dst (.slice A2 (n + 1) c2)) w') : wpList Tryz.prog ops Q (o :: rest) a (w0.alloc (.cells cs 151)) := by
  subst hB
  obtain ⟨i0, hi, hz0, hz1, hz2⟩ := info_parts infoRequest
  refine wpList_append_rd (enc := Request.cells) hgd s x 94 ho lo 151 i0 _ 4 32 Tryz.underlying94 hi hz0 hz1 hz2 rfl (by decide) (fun _ => rfl) oneRequest A n c xs hs (hown.keep (Bw.alloc (Bw.refl _) _)) _ 1 1 [y] hx (Rd.one _ _ _ _ 4 hcs) (by unfold maxLen; omega) (by omega) (by simp; omega) ?_
  intro A2 c2 w' h1 h2 h3 h4
  refine h A2 c2 w' h1 ((World.grownBy_alloc w0 _ _).trans h2) ?_
  rcases h3 with h3 | ⟨x, hx, h5 | h5⟩
  · cases hA : A2 with
    | none => exact absurd hA (h4 (by omega))
    | some x => exact ⟨x, rfl, .inr ⟨x, by rw [← h3]; exact hA, rfl⟩⟩
  · exact ⟨x, hx, .inl (by rw [h5]; simp)⟩
  · exact ⟨x, hx, .inr h5⟩
end Go.Proofs.YtpjljbhodnlhmaaGreatDoor
