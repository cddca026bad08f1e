
/- Structs of numbers, and the laws' own helpers at them: copies, equality, marks. -/
import Derived.Test.YtnejeigcdogolaaK3
namespace Go.Proofs.Ytnejeigcdogolaa
open Go.RowKit
structure Request where
  number : Int
  state : Int
  til : Int
  tries : Int
def Request.cells (t : Request) : List Value := [.int .i64 t.number, .int .i64 t.state, .int .i64 t.til, .int .i64 t.tries]
def Request.val (t : Request) : Value := .agg #[.int .i64 t.number, .int .i64 t.state, .int .i64 t.til, .int .i64 t.tries]
def requestAt (ts : List Request) (k : Nat) : Request := ts.getD k ⟨0, 0, 0, 0⟩
theorem requestAt_lt {ts : List Request} {k : Nat} (h : k < ts.length) : requestAt ts k = ts[k] := by simp [requestAt, h]
theorem Rd.request {w : World} {A : Option Addr} {n : Nat} {ts : List Request} (h : Rd w A n 4 (ts.map Request.cells)) (hn : 0 < n) :
    ∃ b off, A = some ⟨b, off, none⟩ ∧ b < w.heap.size ∧ ∀ k, k < n → w.cell? ⟨b, off + k * 4, none⟩ = some (.int .i64 (requestAt ts k).number) ∧ w.cell? ⟨b, off + k * 4 + 1, none⟩ = some (.int .i64 (requestAt ts k).state) ∧ w.cell? ⟨b, off + k * 4 + 2, none⟩ = some (.int .i64 (requestAt ts k).til) ∧ w.cell? ⟨b, off + k * 4 + 3, none⟩ = some (.int .i64 (requestAt ts k).tries) := by
  obtain ⟨b, off, hA, hb, hc⟩ := h.at_ hn
  refine ⟨b, off, hA, hb, fun k hk => ?_⟩
  have hl : ts.length = n := by simpa using h.len
  have hk' : k < ts.length := by omega
  have hx : (ts.map Request.cells)[k]? = some (requestAt ts k).cells := by simp [requestAt, hk']
  exact ⟨hc k 0 _ _ hx rfl, hc k 1 _ _ hx rfl, hc k 2 _ _ hx rfl, hc k 3 _ _ hx rfl⟩
theorem Rd.requestlen {w : World} {A : Option Addr} {n : Nat} {ts : List Request} (h : Rd w A n 4 (ts.map Request.cells)) : ts.length = n := by simpa using h.len
theorem Row.request {w : World} {lo : Nat} {e : TypeId} {A : Option Addr} {n c : Nat} {ts : List Request} (h : Row w lo e 4 Request.cells A n c ts) (hn : 0 < n) :
    ∃ g, A = some ⟨g, 0, none⟩ ∧ lo ≤ g ∧ g < w.heap.size ∧ (∀ j, w.frozen? ⟨g, j, none⟩ = false) ∧ ∀ k, k < n → w.cell? ⟨g, k * 4, none⟩ = some (.int .i64 (requestAt ts k).number) ∧ w.cell? ⟨g, k * 4 + 1, none⟩ = some (.int .i64 (requestAt ts k).state) ∧ w.cell? ⟨g, k * 4 + 2, none⟩ = some (.int .i64 (requestAt ts k).til) ∧ w.cell? ⟨g, k * 4 + 3, none⟩ = some (.int .i64 (requestAt ts k).tries) := by
  obtain ⟨g, rfl, hlo, hlt⟩ := h.form hn
  obtain ⟨b, off, hA, _, hc⟩ := (h.rd (fun _ => rfl)).request hn
  simp only [Option.some.injEq, Addr.mk.injEq, and_true] at hA
  obtain ⟨rfl, rfl⟩ := hA
  exact ⟨g, rfl, hlo, hlt, fun j => h.frozen j, fun k hk => by simpa using hc k hk⟩
theorem infoRequest : (Try.prog.info? 37).map (fun i => (i.zero, i.size, i.bytes)) = some (some (.agg #[.int .i64 0, .int .i64 0, .int .i64 0, .int .i64 0]), 4, 32) := by kernel_rfl
end Go.Proofs.Ytnejeigcdogolaa
