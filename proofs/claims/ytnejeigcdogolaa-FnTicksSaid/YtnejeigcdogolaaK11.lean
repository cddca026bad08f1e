
/- The library's Clone and Delete at rows of structs: contracts. -/
import Derived.Test.YtnejeigcdogolaaK10
namespace Go.Proofs.Ytnejeigcdogolaa
open Go.RowKit
theorem oneRequest : ∀ (t : Request) (u : Value), u ∈ t.cells → u.oneCell' = true := by
  intro t u hu
  simp only [Request.cells, List.mem_cons, List.not_mem_nil, or_false] at hu
  rcases hu with rfl | rfl | rfl | rfl <;> rfl
theorem append_Request {w0 : World} {lo : Nat} {ops : Array Oper} {rest : List Oper} {o : Oper} {a : Act} {Q : Exit → Act → World → Prop} (hgd : o.guard = none) (s x : Operand)
    (ho : o.op = .call { callee := .builtin .append, args := #[s, x], argTypes := #[24, 24] }) (A : Option Addr) (n c : Nat) (xs : List Request) (hs : a.eval s = .slice A n c) (hown : Row w0 lo 37 4 Request.cells A n c xs) (y : Request)
    (cs : Array Value) (hcs : y.cells = cs.toList) (B : Nat) (hx : a.eval x = .slice (some ⟨B, 0, none⟩) 1 1) (hB : w0.heap.size = B) (hn : n < 1000000) (hlo : lo ≤ w0.heap.size)
    (h : ∀ A2 c2 w', Row w' lo 37 4 Request.cells A2 (n + 1) c2 (xs ++ [y]) → w0.grownBy w' (Value.ownBlock (.slice A n c)) → (∃ x, A2 = some x ∧ (w0.heap.size < x.block ∨ ∃ y, A = some y ∧ x.block = y.block)) → wpList Try.prog ops Q rest (a.put o.dst (.slice A2 (n + 1) c2)) w') : wpList Try.prog ops Q (o :: rest) a (w0.alloc (.cells cs 37)) := by
  subst hB
  obtain ⟨i0, hi, hz0, hz1, hz2⟩ := info_parts infoRequest
  refine wpList_append_rd (enc := Request.cells) hgd s x 24 ho lo 37 i0 _ 4 32 Try.underlying24 hi hz0 hz1 hz2 rfl (by decide) (fun _ => rfl) oneRequest A n c xs hs (hown.keep (Bw.alloc (Bw.refl _) _)) _ 1 1 [y] hx (Rd.one _ _ _ _ 4 hcs) (by unfold maxLen; omega) (by omega) (by simp; omega) ?_
  intro A2 c2 w' h1 h2 h3 h4
  refine h A2 c2 w' h1 ((World.grownBy_alloc w0 _ _).trans h2) ?_
  rcases h3 with h3 | ⟨x, hx, h5 | h5⟩
  · cases hA : A2 with
    | none => exact absurd hA (h4 (by omega))
    | some x => exact ⟨x, rfl, .inr ⟨x, by rw [← h3]; exact hA, rfl⟩⟩
  · exact ⟨x, hx, .inl (by rw [h5]; simp)⟩
  · exact ⟨x, hx, .inr h5⟩
set_option maxRecDepth 100000 in
theorem c_CloneRequest (A : Option Addr) (n c : Nat) (ts : List Request) (w : World) (hm : n ≤ 1048576) (h : Rd w A n 4 (ts.map Request.cells)) :
    Calls Try.prog 55 #[.slice A n c] w fun e w' => (∃ A' c', e = .returned (.slice A' n c') ∧ Row w' w.heap.size 37 4 Request.cells A' n c' ts) ∧ Bw w w' := by
  have hl := h.len
  have kn := fun (W : World) (a : Option Addr) (l c : Nat) => Lib.run_eql_slice_nil (P := Try.prog) W 24 37 a l c 0 0 Try.underlying24
  cases A with
  | none =>
    have h0 : n = 0 := by
      rcases Nat.eq_zero_or_pos n with h0 | h0
      · exact h0
      · obtain ⟨b, off, hA, _⟩ := h.at_ h0; cases hA
    subst h0
    obtain rfl : ts = [] := by simpa using hl
    go_enter Try.func55, Try.ntmps55
    go_wp2
    go_ret
    exact ⟨⟨_, _, rfl, Row.nil _ _ _ _ _⟩, Bw.refl _⟩
  | some a =>
    obtain ⟨i0, hi, hz0, hz1, hz2⟩ := info_parts infoRequest
    have Hi := Lib.hid hi
    have Hz0 := Lib.hid hz0
    have Hz1 := Lib.hid hz1
    have Hz2 := Lib.hid hz2
    clear hi hz0 hz1 hz2 hl
    go_enter Try.func55, Try.ntmps55
    go_wp2_with (at_builtin; refine wpList_append_rd (enc := Request.cells) rfl _ _ 24 rfl w.heap.size 37 i0 _ 4 32 Try.underlying24 Hi.out Hz0.out Hz1.out Hz2.out rfl (by decide) (fun _ => rfl) ?_ _ _ _ _ rfl (Row.empty w w.heap.size _ _ _ (Nat.le_refl _)) _ n _ ts rfl (h.keep (Bw.alloc (Bw.refl _) _)) ?_ ?_ ?_ ?_; exact oneRequest; (unfold maxLen; omega); omega; simp; intro A2 c2 w2 hrow2 hg2 hmv2 hnn2)
    go_ret
    refine ⟨⟨A2, c2, by simp, by simpa using hrow2⟩, Bw.ofRow (Bw.alloc (Bw.refl _) _) hg2 (fun x hx => by simp at hx; subst hx; simp)⟩
end Go.Proofs.Ytnejeigcdogolaa
