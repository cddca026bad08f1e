
/- A tree that came in. -/
import Derived.Test.YtpjljbhodnlhmaaGreatDoorK14
import Derived.Test.YtpjljbhodnlhmaaGreatDoorI
namespace Go.Proofs.YtpjljbhodnlhmaaGreatDoor
open Go.ChangeShapes Go.WideShapes Go.ChangeAt Go.RowKit Go.Joins Go.Deep
set_option maxRecDepth 100000 in
theorem open_tree {H : Type} {enc : TypeId × Value → H} {w : World} {v : Value} {d : DataW H} {p : List MemPlace} (hv : Value.okWide Tryz.prog w .any 0 24 v) (h : DataW.Trod enc Tryz.prog w 0 (fun _ => true) true 24 v d p) :
    ∃ (A : Option Addr) (n c : Nat) (ts : List Int), v = .agg #[.slice A n c] ∧ n ≤ c ∧ c ≤ maxLen ∧ Rd w A n 1 (ts.map icell) := by
  obtain ⟨v0, y0, m, rfl, hy⟩ := open_agg1 Tryz.underlying24 (by kernel_rfl) (by kernel_rfl) hv h
  obtain ⟨A, n, c, ts, rfl, h1, h2, h3⟩ := trod_rd (sz := 1) icell Tryz.underlying22 (by kernel_rfl) (by omega) (fun n cs x hx => trod_icell Tryz.underlying3 hx) hy
  exact ⟨A, n, c, ts, rfl, h1, h2, h3⟩
end Go.Proofs.YtpjljbhodnlhmaaGreatDoor
