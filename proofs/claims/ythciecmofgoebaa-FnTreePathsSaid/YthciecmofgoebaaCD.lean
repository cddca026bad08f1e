
/- The code that came in: bytes. -/
import Derived.Test.YthciecmofgoebaaCU1
import Derived.Test.YthciecmofgoebaaK6
namespace Go.Proofs.Ythciecmofgoebaa
open Go.ChangeShapes Go.WideShapes Go.ChangeAt Go.RowKit Go.Joins Go.Deep
theorem open_code {H : Type} {enc : TypeId × Value → H} {w : World} {v : Value} {d : DataW H} {p : List MemPlace} (hv : Value.okWide Try.prog w .any 0 22 v) (h : DataW.Trod enc Try.prog w 0 (fun _ => true) true 22 v d p) :
    ∃ (A : Option Addr) (n c : Nat), v = .slice A n c ∧ n ≤ c ∧ c ≤ maxLen ∧ Code8 w A n := by
  obtain ⟨A, n, c, ts, rfl, h1, h2, h3⟩ := open_rd (sz := 1) bcell Try.underlying22 (by kernel_rfl) (by omega) (fun n cs x hx => by
    obtain ⟨a, ha, _, hw⟩ := DataW.trod_int Try.underlying5 hx
    have hb : 0 ≤ a ∧ a ≤ 255 := by simpa [Lit.wf, IntKind.min, IntKind.max, IntKind.bits, IntKind.signed] using hw
    exact ⟨⟨a, hb⟩, ha⟩) hv h
  exact ⟨A, n, c, rfl, h1, h2, ts, h3⟩
end Go.Proofs.Ythciecmofgoebaa
