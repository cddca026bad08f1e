
/- The code that came in: bytes. -/
import Derived.Test.YthciecmofgoebaaGreatDoorCU1
import Derived.Test.YthciecmofgoebaaGreatDoorK6
namespace Go.Proofs.YthciecmofgoebaaGreatDoor
open Go.ChangeShapes Go.WideShapes Go.ChangeAt Go.RowKit Go.Joins Go.Deep
set_option maxRecDepth 100000 in
theorem open_code {H : Type} {enc : TypeId × Value → H} {w : World} {v : Value} {d : DataW H} {p : List MemPlace} (hv : Value.okWide Tryz.prog w .any 0 22 v) (h : DataW.Trod enc Tryz.prog w 0 (fun _ => true) true 22 v d p) :
    ∃ (A : Option Addr) (n c : Nat), v = .slice A n c ∧ n ≤ c ∧ c ≤ maxLen ∧ Code8 w A n := by
  obtain ⟨A, n, c, ts, rfl, h1, h2, h3⟩ := open_rd (sz := 1) bcell Tryz.underlying22 (by kernel_rfl) (by omega) (fun n cs x hx => by
    obtain ⟨a, ha, _, hw⟩ := DataW.trod_int Tryz.underlying5 hx
    have hb : 0 ≤ a ∧ a ≤ 255 := by simpa [Lit.wf, IntKind.min, IntKind.max, IntKind.bits, IntKind.signed] using hw
    exact ⟨⟨a, hb⟩, ha⟩) hv h
  exact ⟨A, n, c, rfl, h1, h2, ts, h3⟩
end Go.Proofs.YthciecmofgoebaaGreatDoor
